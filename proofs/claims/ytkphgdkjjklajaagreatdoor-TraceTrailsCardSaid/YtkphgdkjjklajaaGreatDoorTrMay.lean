/-
  trace.checkOrigins: which origins are valid. trace.may: how much of some origins a batch may have.
-/
import Derived.Test.YtkphgdkjjklajaaGreatDoorTrChk
import Derived.Test.YtkphgdkjjklajaaGreatDoorTrMost
import Derived.Test.YtkphgdkjjklajaaGreatDoorTrBut
set_option linter.unusedVariables false
set_option linter.unusedSimpArgs false
namespace Go.Proofs.YtkphgdkjjklajaaGreatDoor
open Go.RowKit

/-- the origin before -/
def prevO (l : List Int) (k : Nat) : Int := if k = 0 then -1 else l.getD (k - 1) 0
theorem chkOs_step (n : Nat) (l : List Int) (k : Nat) (hk : k < l.length) (h1 : 0 ≤ l[k] ∧ l[k] ≤ (n : Int) - 1) (h2 : prevO l k < l[k]) : chkOs n (prevO l k) (l.drop k) = chkOs n (prevO l (k + 1)) (l.drop (k + 1)) := by
  rw [← List.getElem_cons_drop hk]
  simp only [chkOs]
  have hr : inR n l[k] = true := inR_iff.2 (by omega)
  rw [if_neg (by rw [hr]; decide), if_neg (by omega)]
  have e : prevO l (k + 1) = l[k] := by unfold prevO; rw [if_neg (by omega)]; simp [List.getD_eq_getElem?_getD, hk]
  rw [e]
theorem chkOs_bad (n : Nat) (l : List Int) (k : Nat) (hk : k < l.length) (h1 : ¬ (0 ≤ l[k] ∧ l[k] ≤ (n : Int) - 1)) : chkOs n (prevO l k) (l.drop k) = 3 := by
  rw [← List.getElem_cons_drop hk]
  simp only [chkOs]
  have hr : inR n l[k] = false := by
    cases h : inR n l[k]
    · rfl
    · exact absurd (inR_iff.1 h) (by omega)
  rw [if_pos hr]
theorem chkOs_ord (n : Nat) (l : List Int) (k : Nat) (hk : k < l.length) (h1 : 0 ≤ l[k] ∧ l[k] ≤ (n : Int) - 1) (h2 : l[k] ≤ prevO l k) : chkOs n (prevO l k) (l.drop k) = 5 := by
  rw [← List.getElem_cons_drop hk]
  simp only [chkOs]
  have hr : inR n l[k] = true := inR_iff.2 (by omega)
  rw [if_neg (by rw [hr]; decide), if_pos h2]

set_option maxRecDepth 100000 in
set_option maxHeartbeats 2000000 in
theorem checkOrigins_any (b1 b2 b3 : Nat) (Ab Am Ao : Option Addr) (nb cb nm cm no co : Nat) (bs : List Int) (ms : List Mv) (l : List Int) (w : World) (hM : NetM w b1 b2 Ab Am nb cb nm cm bs ms) (hnb : nb ≤ 100000) (hnm : nm ≤ 100000) (hO : Sl encI 1 w b3 Ao no l) (hno : no ≤ 100000) :
    Calls Tryz.prog 39 #[netV Ab Am nb cb nm cm, .slice Ao no co] w fun e w' => e = .returned (.int .i64 (chkO bs ms l)) ∧ Below w.heap.size w w' := by
  have hBn := Blk.new w 25 #[.slice Ab nb cb, .slice Am nm cm]
  have c0 := hBn.cell 0
  have c1 := hBn.cell 1
  have hb0 : Below w.heap.size w (w.alloc (.cells #[.slice Ab nb cb, .slice Am nm cm] 25)) := (Below.refl _ w).alloc (Nat.le_refl _) _
  have HB0 := Lib.hid hb0
  have HBN := Lib.hid hBn
  have HNB := Lib.hid hM.b.len
  have HNO := Lib.hid hO.len
  have hMo := hM.old hb0
  have HM := Lib.hid hM
  have HMO := Lib.hid hMo
  have HO := Lib.hid hO
  clear hM hBn hO hMo hb0
  by_cases hc : chkNet bs ms = 0
  · have hcon := check_any b1 b2 Ab Am nb cb nm cm bs ms _ HMO.out hnb hnm
    rw [hc] at hcon
    have HC := Lib.hid hcon
    have HCN := Lib.hid (show chkO bs ms l = chkOs bs.length (prevO l 0) (l.drop 0) by unfold chkO; rw [if_pos hc]; rfl)
    clear hcon hc
    go_enter Tryz.func39, Tryz.ntmps39
    go_upto_region 4 with (go_at_call 28; refine HC.out.mono ?_; rintro e w1 ⟨rfl, hb1⟩; have HB1 := Lib.hid hb1; clear hb1)
    have hbn1 := HBN.out.below HB1.out HBN.out.lt
    have hbw1 := HB0.out.trans (HB1.out.mono (by simp))
    have c2 := hbn1.cell 0
    have HL1 := Lib.hid (HO.out.old hbw1)
    have HBW := Lib.hid hbw1
    clear c0 c1 hbn1 hbw1
    go_wp2_with fail
    go_loop [15] (fun i => ∃ k : Nat, k ≤ no ∧ i = .int .i64 k ∧ chkO bs ms l = chkOs bs.length (prevO l k) (l.drop k)) (fun i => no - (intOf i).toNat)
    case atStart => exact ⟨0, Nat.zero_le _, rfl, HCN.out⟩
    case round =>
      obtain ⟨k, hk, rfl, hcs⟩ := hrel
      have HCS := Lib.hid hcs
      clear hcs
      by_cases hlt : k < no
      · have hkl : k < l.length := by have := HNO.out; omega
        obtain ⟨o, rfl, hbz, s0⟩ := HL1.out.atI hkl
        by_cases hin : 0 ≤ l[k] ∧ l[k] ≤ (nb : Int) - 1
        · have HST := Lib.hid (fun h => chkOs_step bs.length l k hkl (by have := HNB.out; omega) h)
          have HOD := Lib.hid (fun h => chkOs_ord bs.length l k hkl (by have := HNB.out; omega) h)
          cases k with
          | zero =>
            have hp : prevO l 0 = -1 := rfl
            have HNX := Lib.hid (show chkO bs ms l = chkOs bs.length (prevO l 1) (l.drop 1) by rw [HCS.out]; exact HST.out (by rw [hp]; omega))
            obtain ⟨x, hx⟩ : ∃ x, x = l[0] := ⟨_, rfl⟩
            rw [← hx] at s0 hin
            rw [Nat.add_zero] at s0
            clear hx hp HST HOD
            go_wp2_with (go_at_call 50; with_reducible refine (tin_t x 0 ((nb : Int) - 1) hin _).mono ?_; rintro e w' ⟨rfl, rfl⟩)
            go_round
            case rel => exact ⟨1, by omega, by simp, HNX.out⟩
            case measure => simp [intOf]; omega
          | succ k =>
            have hkl' : k < l.length := by omega
            obtain ⟨o', ho', _, s1⟩ := HL1.out.atI hkl'
            injection ho' with ho'
            injection ho' with _ ho'
            subst ho'
            have hp : prevO l (k + 1) = l[k] := by unfold prevO; rw [if_neg (by omega)]; simp [List.getD_eq_getElem?_getD, hkl']
            by_cases hle : l[k + 1] ≤ l[k]
            · have HE := Lib.hid (show (5 : Int) = chkO bs ms l by rw [HCS.out]; exact (HOD.out (by rw [hp]; exact hle)).symm)
              obtain ⟨x, hx⟩ : ∃ x, x = l[k + 1] := ⟨_, rfl⟩
              obtain ⟨y, hy⟩ : ∃ y, y = l[k] := ⟨_, rfl⟩
              rw [← hx] at s0 hin hle
              rw [← hy] at s1 hle
              have hkk : ((k + 1 : Nat) : Int) = (k : Int) + 1 := by simp
              clear hx hy hp HST HOD
              go_wp2_with (go_at_call 50; with_reducible refine (tin_t x 0 ((nb : Int) - 1) hin _).mono ?_; rintro e w' ⟨rfl, rfl⟩)
              go_ret
              exact ⟨ret_int HE.out, HBW.out⟩
            · have HNX := Lib.hid (show chkO bs ms l = chkOs bs.length (prevO l (k + 1 + 1)) (l.drop (k + 1 + 1)) by rw [HCS.out]; exact HST.out (by rw [hp]; omega))
              obtain ⟨x, hx⟩ : ∃ x, x = l[k + 1] := ⟨_, rfl⟩
              obtain ⟨y, hy⟩ : ∃ y, y = l[k] := ⟨_, rfl⟩
              rw [← hx] at s0 hin hle
              rw [← hy] at s1 hle
              clear hx hy hp HST HOD
              go_wp2_with (go_at_call 50; with_reducible refine (tin_t x 0 ((nb : Int) - 1) hin _).mono ?_; rintro e w' ⟨rfl, rfl⟩)
              go_round
              case rel => exact ⟨k + 1 + 1, by omega, by simp, HNX.out⟩
              case measure => simp [intOf]; omega
        · have HE := Lib.hid (show (3 : Int) = chkO bs ms l by rw [HCS.out, chkOs_bad _ l k hkl (by have := HNB.out; omega)])
          obtain ⟨x, hx⟩ : ∃ x, x = l[k] := ⟨_, rfl⟩
          rw [← hx] at s0 hin
          clear hx
          go_wp2_with (go_at_call 50; with_reducible refine (tin_f x 0 ((nb : Int) - 1) hin _).mono ?_; rintro e w' ⟨rfl, rfl⟩)
          go_ret
          exact ⟨ret_int HE.out, HBW.out⟩
      · obtain rfl : k = no := by omega
        have HE := Lib.hid (show (0 : Int) = chkO bs ms l by rw [HCS.out, List.drop_eq_nil_of_le (by have := HNO.out; omega)]; rfl)
        go_wp2_with fail
        go_ret
        exact ⟨ret_int HE.out, HBW.out⟩
  · have hcon := check_any b1 b2 Ab Am nb cb nm cm bs ms _ HMO.out hnb hnm
    have hE : chkO bs ms l = chkNet bs ms := by unfold chkO; rw [if_neg hc]
    rw [hE]
    obtain ⟨x, hx⟩ : ∃ x, x = chkNet bs ms := ⟨_, rfl⟩
    rw [← hx] at hcon hc ⊢
    have hxx : (x == 0) = false := by simp [hc]
    have hxx2 : (x != 0) = true := by simp [hc]
    have HC := Lib.hid hcon
    clear hcon hx hE hc
    go_enter Tryz.func39, Tryz.ntmps39
    go_wp2_with (go_at_call 28; refine HC.out.mono ?_; rintro e w1 ⟨rfl, hb1⟩; have HB1 := Lib.hid hb1; clear hb1)
    go_ret
    exact ⟨rfl, HB0.out.trans (HB1.out.mono (by simp))⟩
end Go.Proofs.YtkphgdkjjklajaaGreatDoor

namespace Go.Proofs.YtkphgdkjjklajaaGreatDoor
open Go.RowKit Go.Shelf

theorem others_oi {n : Nat} (l : List Int) : (∀ o ∈ othersT n l, 0 ≤ o ∧ o < n) ∧ (othersT n l).Nodup := ⟨(others_in n l).rg, (others_in n l).nodup⟩
/-- between two rounds of may -/
structure MaySt (bs : List Int) (ms : List Mv) (w V : World) (Ba : Nat) (k : Nat) (wr : World) : Prop where
  a : Blk wr Ba 96 (amA (hasAt (bsF bs) (ms.take k)))
  b : Below V.heap.size V wr
  lo : V.heap.size ≤ Ba

theorem flatI (l : List Int) : l.flatMap encI = l.map (Value.int .i64) := by rw [List.map_eq_flatMap]; rfl
theorem info_span2 : (Tryz.prog.info? 50).map (·.size) = some 2 := by kernel_rfl
set_option maxRecDepth 100000 in
set_option maxHeartbeats 4000000 in
theorem may_any (b1 b2 b3 : Nat) (Ab Am Ao : Option Addr) (nb cb nm cm no co T : Nat) (bs : List Int) (ms : List Mv) (l : List Int) (batch : Nat) (w : World) (hN : NetIn bs ms) (hM : NetM w b1 b2 Ab Am nb cb nm cm bs ms) (hT : T ≤ ms.length)
    (hO : Sl encI 1 w b3 Ao no l) (hl : OrgIn bs.length l) (hb : batch < bs.length) :
    Calls Tryz.prog 60 #[netV Ab Am nb cb nm cm, .slice Ao no co, .int .i64 batch, .int .i64 T] w fun e w' => e = .returned (.agg #[.int .i64 (mayT bs l (ms.take T) batch).lo, .int .i64 (mayT bs l (ms.take T) batch).hi]) ∧ Below w.heap.size w w' := by
  have hBn := (Blk.new w 25 #[.slice Ab nb cb, .slice Am nm cm]).alloc (.cells #[.int .i64 0, .int .i64 0] 50)
  have hRn := Blk.new (w.alloc (.cells #[.slice Ab nb cb, .slice Am nm cm] 25)) 50 #[.int .i64 0, .int .i64 0]
  rw [World.size_alloc] at hRn
  have c0 := hBn.cell 0
  have c1 := hBn.cell 1
  have hb0 : Below w.heap.size w ((w.alloc (.cells #[.slice Ab nb cb, .slice Am nm cm] 25)).alloc (.cells #[.int .i64 0, .int .i64 0] 50)) := ((Below.refl _ w).alloc (Nat.le_refl _) _).alloc (by simp) _
  obtain ⟨V, hV⟩ : ∃ V, ((w.alloc (.cells #[.slice Ab nb cb, .slice Am nm cm] 25)).alloc (.cells #[.int .i64 0, .int .i64 0] 50)) = V := ⟨_, rfl⟩
  have hz : V.heap.size = w.heap.size + 2 := by rw [← hV]; simp
  rw [hV] at hBn hRn c0 c1 hb0
  have hMV := hM.old hb0
  have hOV := hO.old hb0
  have hnb8 : nb ≤ 8 := by have := hM.b.len; have := hN.n1; omega
  have hTc : T ≤ cm := by have := hM.m.len; have := hM.cm; omega
  have hT12 : T ≤ 12 := by have := hN.m1; omega
  have HNB := Lib.hid hM.b.len
  have HNM := Lib.hid hM.m.len
  have HNO := Lib.hid hO.len
  have HV := Lib.hid hV
  have HZ := Lib.hid hz
  have HB0 := Lib.hid hb0
  have HBN := Lib.hid hBn
  have HRN := Lib.hid hRn
  have HMV := Lib.hid hMV
  have HOV := Lib.hid hOV
  have HN := Lib.hid hN
  have HOL := Lib.hid hl
  clear hBn hRn hb0 hM hMV hOV hO hV hz hl hN
  go_enter Tryz.func60, Tryz.ntmps60
  go_upto_region 1 with fail
  rw [show ((w.alloc (.cells #[.slice Ab nb cb, .slice Am nm cm] 25)).alloc (.cells #[.int .i64 0, .int .i64 0] 50)) = V from HV.out]
  go_upto_region 2 with (first
    | (go_at_call 51; refine (begin_any Ab Am nb cb nm cm b1 bs _ HMV.out.b hnb8).mono ?_; rintro e w1 ⟨rfl, hb1⟩; have hA1 := Blk.new w1 96 (amA fun _ => 0); have HA1 := Lib.hid hA1; have HB1 := Lib.hid hb1; clear hb1 hA1)
    | (refine wpList_store_row rfl 96 (.tmp 9) (.tmp 13) rfl w1.heap.size (amA (bsF bs)) rfl rfl 96 _ HA1.out info_am rfl (amA_cells _) ?_))
  obtain ⟨W2, hW2⟩ : ∃ W2, (w1.alloc (.cells #[.int .i64 0, .int .i64 0, .int .i64 0, .int .i64 0, .int .i64 0, .int .i64 0, .int .i64 0, .int .i64 0] 96)).setRow w1.heap.size (amA (bsF bs)) = W2 := ⟨_, rfl⟩
  have hS0 : MaySt bs ms w V w1.heap.size 0 W2 := by
    rw [← hW2]
    exact ⟨HA1.out.setRow _, (HB1.out.alloc HB1.out.size _).grown (grown_setRow _ _ _) (by have := HB1.out.size; simp; omega) (fun j e => by cases e; exact HB1.out.size), HB1.out.size⟩
  rw [hW2]
  have HS0 := Lib.hid hS0
  have c2 := (HBN.out.below hS0.b HBN.out.lt).cell 1
  clear hS0 hW2 c0 c1
  simp only [Act.put]
  go_wp2_with fail
  clear c2
  go_loopw [19] (fun i wr => ∃ k : Nat, k ≤ T ∧ i = .int .i64 k ∧ MaySt bs ms w V w1.heap.size k wr) (fun i _ => T - (intOf i).toNat)
  case atStart => exact ⟨0, Nat.zero_le _, rfl, HS0.out⟩
  case round =>
    obtain ⟨k, hk, rfl, hS⟩ := hrel
    have HS := Lib.hid hS
    clear hS
    by_cases hlt : k < T
    · as_aux_lemma =>
      have hkm : k < ms.length := by omega
      obtain ⟨o, rfl, hbz, s0, s1, s2⟩ := (HMV.out.m.old HS.out.b).atM hkm
      have HOK := Lib.hid (HN.out.at_ hkm)
      have HTK := Lib.hid (show hasAt (bsF bs) (ms.take (k + 1)) = mvd (hasAt (bsF bs) (ms.take k)) ms[k] by rw [List.take_succ_eq_append_getElem hkm, hasAt_snoc])
      generalize hmk : ms[k] = mv at s0 s1 s2 HOK HTK
      clear hmk
      have hf0 := HOK.out.f0; have hf1 := HOK.out.f1; have ht0 := HOK.out.t0; have ht1 := HOK.out.t1; have hg0 := HOK.out.g0
      have hg1 : mv.g ≤ 8000000 := by have := HOK.out.g1; have := (HN.out.has_bd k mv.fr).2; omega
      have hn1 := HN.out.n1
      have hX := Blk.new wr 58 #[.int .i64 mv.fr, .int .i64 mv.to, .int .i64 mv.g]
      have m0 := hX.cell 0
      have m1 := hX.cell 1
      have m2 := hX.cell 2
      have HAD := Lib.hid (HS.out.a.alloc (.cells #[.int .i64 mv.fr, .int .i64 mv.to, .int .i64 mv.g] 58))
      clear hX
      go_wp2_with (first
        | (go_at_call 52; refine (moved_any (hasAt (bsF bs) (ms.take k)) mv _ hf0 (by omega) ht0 (by omega) (fun b => by have := HN.out.has_bd k b; omega) (by omega) (by omega)).mono ?_; rintro e w5 ⟨rfl, hb5⟩; have hA5 := HAD.out.below hb5 HAD.out.lt; have HB5 := Lib.hid hb5; have HA5 := Lib.hid hA5; clear hb5 hA5)
        | (refine wpList_load_row rfl 96 (.tmp 9) rfl w1.heap.size rfl 96 (amA (hasAt (bsF bs) (ms.take k))) (0, 0) _ HAD.out Tryz.underlying96 rfl info_am ?_)
        | (refine wpList_store_row rfl 96 (.tmp 9) (.tmp 25) rfl w1.heap.size _ rfl rfl 96 _ HA5.out info_am rfl (amA_cells _) ?_))
      refine ⟨⟨k + 1, by omega, by go_num, ⟨by rw [HTK.out]; exact HA5.out.setRow _, ?_, HS.out.lo⟩⟩, by simp [intOf]; omega⟩
      exact ((HS.out.b.alloc HS.out.b.size _).trans (HB5.out.mono (Nat.le_trans HS.out.b.size (by simp)))).grown (grown_setRow _ _ _) (Nat.le_trans (Nat.le_trans HS.out.b.size (by simp)) HB5.out.size) (fun j e => by cases e; exact HS.out.lo)
    · as_aux_lemma =>
      obtain rfl : k = T := by omega
      have hTl : (ms.take k).length = k := by rw [List.length_take]; omega
      obtain ⟨x, hx⟩ : ∃ x, x = hasAt (bsF bs) (ms.take k) batch := ⟨_, rfl⟩
      obtain ⟨p, hp⟩ : ∃ p, p = mostF bs.length (bsF bs) (othersT bs.length l) (ms.take k) batch := ⟨_, rfl⟩
      obtain ⟨q, hq⟩ : ∃ q, q = mostF bs.length (bsF bs) l (ms.take k) batch := ⟨_, rfl⟩
      have hNT := HN.out.take k
      have hx1 := HN.out.has_bd k batch
      have hp0 : 0 ≤ p := by rw [hp]; exact mostF_nonneg HN.out.pos hNT.ms _ _
      have hp1 : p ≤ 8000000 := by have := mostF_le_sum HN.out.pos hNT.ms (othersT bs.length l) (batch := batch) (by omega) (by omega); have := HN.out.sum; rw [hp]; omega
      rw [← hx] at hx1
      obtain ⟨hx2, hx3⟩ := hx1
      have hbt8 : batch < 8 := by have := HN.out.n1; omega
      have ax : wr.cell? ⟨w1.heap.size, batch, none⟩ = some (.int .i64 x) := by
        have := HS.out.a.cell batch
        rw [this, amA_get _ batch hbt8, hx]
      have HX := Lib.hid hx
      have HP := Lib.hid hp
      have HQ := Lib.hid hq
      have hbi0 : (0 : Int) ≤ (batch : Int) := by omega
      have hbi1 : (batch : Int) < 8 := by omega
      have hmo : ∀ (Ax : Option Addr) (nx cx bx : Nat) (lx : List Int) (W : World), Below V.heap.size V W → Sl encI 1 W bx Ax nx lx → (∀ o ∈ lx, 0 ≤ o ∧ o < bs.length) → lx.Nodup → Calls Tryz.prog 61 #[netV Ab Am nb cb nm cm, .slice Ax nx cx, .int .i64 batch, .int .i64 k] W fun e w' => e = .returned (.int .i64 (mostF bs.length (bsF bs) lx (ms.take k) batch)) ∧ Below W.heap.size W w' :=
        fun Ax nx cx bx lx W hW hs h1 h2 => most_any b1 b2 bx Ab Am Ax nb cb nm cm nx cx k bs ms lx batch W HN.out (HMV.out.old hW) hT hs h1 h2 hb
      have HMO := Lib.hid hmo
      have HBU := Lib.hid (fun (W : World) (hW : Below V.heap.size V W) => but_any Ab Am Ao nb cb nm cm no co b3 l W hnb8 (by have := HNB.out; have := HN.out.n0; omega) (by have := HNO.out; have := orig_len HOL.out.nodup HOL.out.rg HN.out.n1; omega) (by rw [HNB.out]; exact HOL.out.rg) (HOV.out.old hW))
      clear hx hp hq hmo hNT
      go_upto_region 7 with fail
      have hw : IntKind.i64.wrap (x - mostF bs.length (bsF bs) (othersT bs.length l) (ms.take k) batch) = x - mostF bs.length (bsF bs) (othersT bs.length l) (ms.take k) batch := IntWalk.i64_in _ (by rw [← HP.out]; omega)
      have hM : Below wr.heap.size wr wr.drew := (Below.refl _ wr).drew
      have HLV := Lib.hid (fun (W : World) (h : Below wr.heap.size wr W) => show Below V.heap.size V W from HS.out.b.trans (h.mono HS.out.b.size))
      have HCL := Lib.hid (fun (W : World) (h : Below wr.heap.size wr W) => show W.cell? ⟨w.heap.size, 0, none⟩ = some (.slice Ab nb cb) ∧ W.cell? ⟨w.heap.size, 1, none⟩ = some (.slice Am nm cm) ∧ W.cell? ⟨w1.heap.size, batch, none⟩ = some (.int .i64 x) from
        ⟨(HBN.out.below (HLV.out W h) HBN.out.lt).cell 0, (HBN.out.below (HLV.out W h) HBN.out.lt).cell 1, (h.cell (p := ⟨w1.heap.size, batch, none⟩) HS.out.a.lt).trans ax⟩)
      clear ax
      refine wp_region_K2 [2, 3, 4, 11] [] (fun W => W.cell? ⟨w.heap.size, 0, none⟩ = some (.slice Ab nb cb) ∧ W.cell? ⟨w.heap.size, 1, none⟩ = some (.slice Am nm cm) ∧ W.cell? ⟨w1.heap.size, batch, none⟩ = some (.int .i64 x)) (fun _ => True) rfl (by kernel_rfl) (HCL.out _ hM) (trivial) (fun hF0 hG0 => ?_)
      (refine wpAnyK_takeL Keep2.refl (i := 0) (v := ?_) rfl (by kernel_rfl) (by kernel_rfl) (by kernel_rfl) (fun _ _ _ h => h) (by rfl) ?_ ?_; rotate_left 1; focus (intro w; go_simp; try with_reducible rfl))
      try simp only [Act.put, List.setIfInBounds_toArray, List.set_cons_zero, List.set_cons_succ]
      (refine wpAnyK_takeL Keep2.refl (i := 1) (v := ?_) rfl (by kernel_rfl) (by kernel_rfl) (by kernel_rfl) (fun _ _ _ h => h) (by rfl) ?_ ?_; rotate_left 1; focus (intro w; go_simp; try with_reducible rfl))
      try simp only [Act.put, List.setIfInBounds_toArray, List.set_cons_zero, List.set_cons_succ]
      (refine wpAnyK_loadL Keep2.refl (i := 2) (v := ?_) rfl (Keep2.left (i := 2) (by rfl)) (by kernel_rfl) (by kernel_rfl) (by kernel_rfl) (fun _ _ _ h => h) hF0 (by rfl) ?_ ?_; rotate_left 1; focus (intro w hFw; (try dsimp only at hFw); go_split_ands; go_simp; try with_reducible rfl))
      try simp only [Act.put, List.setIfInBounds_toArray, List.set_cons_zero, List.set_cons_succ]
      (refine wpAnyK_loadL Keep2.refl (i := 3) (v := ?_) rfl (Keep2.left (i := 3) (by rfl)) (by kernel_rfl) (by kernel_rfl) (by kernel_rfl) (fun _ _ _ h => h) hF0 (by rfl) ?_ ?_; rotate_left 1; focus (intro w hFw; (try dsimp only at hFw); go_split_ands; go_simp; try with_reducible rfl))
      try simp only [Act.put, List.setIfInBounds_toArray, List.set_cons_zero, List.set_cons_succ]
      (refine wpAnyK_loadL Keep2.refl (i := 4) (v := ?_) rfl (Keep2.left (i := 4) (by rfl)) (by kernel_rfl) (by kernel_rfl) (by kernel_rfl) (fun _ _ _ h => h) hF0 (by rfl) ?_ ?_; rotate_left 1; focus (intro w hFw; (try dsimp only at hFw); go_split_ands; go_simp; try with_reducible rfl))
      try simp only [Act.put, List.setIfInBounds_toArray, List.set_cons_zero, List.set_cons_succ]
      (refine wpAnyK_takeL Keep2.refl (i := 5) (v := ?_) rfl (by kernel_rfl) (by kernel_rfl) (by kernel_rfl) (fun _ _ _ h => h) (by rfl) ?_ ?_; rotate_left 1; focus (intro w; go_simp; try with_reducible rfl))
      try simp only [Act.put, List.setIfInBounds_toArray, List.set_cons_zero, List.set_cons_succ]
      (refine wpAnyK_takeL Keep2.refl (i := 7) (v := ?_) rfl (by kernel_rfl) (by kernel_rfl) (by kernel_rfl) (fun _ _ _ h => h) (by rfl) ?_ ?_; rotate_left 1; focus (intro w; go_simp; try with_reducible rfl))
      try simp only [Act.put, List.setIfInBounds_toArray, List.set_cons_zero, List.set_cons_succ]
      (refine wpAnyK_takeL Keep2.refl (i := 8) (v := ?_) rfl (by kernel_rfl) (by kernel_rfl) (by kernel_rfl) (fun _ _ _ h => h) (by rfl) ?_ ?_; rotate_left 1; focus (intro w; go_simp; try with_reducible rfl))
      try simp only [Act.put, List.setIfInBounds_toArray, List.set_cons_zero, List.set_cons_succ]
      (refine wpAnyK_loadL Keep2.refl (i := 11) (v := ?_) rfl (Keep2.left (i := 11) (by rfl)) (by kernel_rfl) (by kernel_rfl) (by kernel_rfl) (fun _ _ _ h => h) hF0 (by rfl) ?_ ?_; rotate_left 1; focus (intro w hFw; (try dsimp only at hFw); go_split_ands; go_simp; try with_reducible rfl))
      try simp only [Act.put, List.setIfInBounds_toArray, List.set_cons_zero, List.set_cons_succ]
      (refine wpAnyK_takeL Keep2.refl (i := 12) (v := ?_) rfl (by kernel_rfl) (by kernel_rfl) (by kernel_rfl) (fun _ _ _ h => h) (by rfl) ?_ ?_; rotate_left 1; focus (intro w; go_simp; try with_reducible rfl))
      try simp only [Act.put, List.setIfInBounds_toArray, List.set_cons_zero, List.set_cons_succ]
      (refine wpAnyK_takeL Keep2.refl (i := 13) (v := ?_) rfl (by kernel_rfl) (by kernel_rfl) (by kernel_rfl) (fun _ _ _ h => h) (by rfl) ?_ ?_; rotate_left 1; focus (intro w; go_simp; try with_reducible rfl))
      try simp only [Act.put, List.setIfInBounds_toArray, List.set_cons_zero, List.set_cons_succ]
      (refine wpAnyK_takeL Keep2.refl (i := 14) (v := ?_) rfl (by kernel_rfl) (by kernel_rfl) (by kernel_rfl) (fun _ _ _ h => h) (by rfl) ?_ ?_; rotate_left 1; focus (intro w; go_simp; try with_reducible rfl))
      try simp only [Act.put, List.setIfInBounds_toArray, List.set_cons_zero, List.set_cons_succ]
      refine wpAnyK_step (i := 6) rfl (by kernel_rfl) (by rfl) (fun K hK => ?_)
      go_simp
      (refine (HBU.out _ (HLV.out _ hM)).mono ?_; rintro e wA ⟨g, kk, cap, rfl, hown, hBA⟩; have hkk : kk = (othersT nb l).length := (by have := hown.1; simpa using this.symm); obtain ⟨bO, hbO, hsO⟩ := Sl.of_own (enc := encI) encI_len hkk (by rw [flatI]; exact hown); have hM := hM.trans (hBA.mono hM.size); rw [HNB.out] at hsO; clear hown hkk)
      (refine hK _ _ (⟨fun _ _ => HCL.out _ hM, fun h => absurd h (by decide)⟩) ?_; clear hK K)
      (refine wpAnyK_with (F := fun W => W.cell? ⟨w.heap.size, 0, none⟩ = some (.slice Ab nb cb) ∧ W.cell? ⟨w.heap.size, 1, none⟩ = some (.slice Am nm cm) ∧ W.cell? ⟨w1.heap.size, batch, none⟩ = some (.int .i64 x)) (HCL.out _ hM) (fun hF1 => ?_); clear hF0)
      try simp only [Act.put, List.setIfInBounds_toArray, List.set_cons_zero, List.set_cons_succ]
      refine wpAnyK_step (i := 9) rfl (by kernel_rfl) (by rfl) (fun K hK => ?_)
      go_simp
      (refine (HMO.out _ kk cap bO (othersT bs.length l) _ (HLV.out _ hM) hsO (others_oi l).1 (others_oi l).2).mono ?_; rintro e wB ⟨rfl, hBB⟩; have hM := hM.trans (hBB.mono hM.size))
      (refine hK _ _ (⟨fun _ _ => HCL.out _ hM, fun h => absurd h (by decide)⟩) ?_; clear hK K)
      (refine wpAnyK_with (F := fun W => W.cell? ⟨w.heap.size, 0, none⟩ = some (.slice Ab nb cb) ∧ W.cell? ⟨w.heap.size, 1, none⟩ = some (.slice Am nm cm) ∧ W.cell? ⟨w1.heap.size, batch, none⟩ = some (.int .i64 x)) (HCL.out _ hM) (fun hF2 => ?_); clear hF1)
      try simp only [Act.put, List.setIfInBounds_toArray, List.set_cons_zero, List.set_cons_succ]
      (refine wpAnyK_takeL Keep2.refl (i := 10) (v := ?_) rfl (by kernel_rfl) (by kernel_rfl) (by kernel_rfl) (fun _ _ _ h => h) (by rfl) ?_ ?_; rotate_left 1; focus (intro w; go_simp; try with_reducible rfl))
      try simp only [Act.put, List.setIfInBounds_toArray, List.set_cons_zero, List.set_cons_succ]
      refine wpAnyK_step (i := 15) rfl (by kernel_rfl) (by rfl) (fun K hK => ?_)
      go_simp
      (refine (HMO.out Ao no co b3 l _ (HLV.out _ hM) (HOV.out.old (HLV.out _ hM)) HOL.out.rg HOL.out.nodup).mono ?_; rintro e wC ⟨rfl, hBC⟩; (try replace hsO := hsO.old hBC); have hM := hM.trans (hBC.mono hM.size))
      (refine hK _ _ (⟨fun _ _ => HCL.out _ hM, fun h => absurd h (by decide)⟩) ?_; clear hK K)
      (refine wpAnyK_with (F := fun W => W.cell? ⟨w.heap.size, 0, none⟩ = some (.slice Ab nb cb) ∧ W.cell? ⟨w.heap.size, 1, none⟩ = some (.slice Am nm cm) ∧ W.cell? ⟨w1.heap.size, batch, none⟩ = some (.int .i64 x)) (HCL.out _ hM) (fun hF3 => ?_); clear hF2)
      try simp only [Act.put, List.setIfInBounds_toArray, List.set_cons_zero, List.set_cons_succ]
      (refine wpAnyK_takeL Keep2.refl (i := 16) (v := ?_) rfl (by kernel_rfl) (by kernel_rfl) (by kernel_rfl) (fun _ _ _ h => h) (by rfl) ?_ ?_; rotate_left 1; focus (intro w; go_simp; try with_reducible rfl))
      try simp only [Act.put, List.setIfInBounds_toArray, List.set_cons_zero, List.set_cons_succ]
      refine wpAnyK_step (i := 17) rfl (by kernel_rfl) (by rfl) (fun K hK => ?_)
      (refine wp_store_row 50 (.tmp 8) (.tmp 43) rfl (w.heap.size + 1) #[.int .i64 (x - mostF bs.length (bsF bs) (othersT bs.length l) (ms.take k) batch), .int .i64 (mostF bs.length (bsF bs) l (ms.take k) batch)] rfl rfl 50 _ (HRN.out.below (HLV.out _ hM) HRN.out.lt) info_span2 rfl (by simp [Value.oneCell']) ?_)
      (refine hK _ _ (Keep2.no (by kernel_rfl) (by kernel_rfl)) ?_; clear hK K)
      try simp only [Act.put, List.setIfInBounds_toArray, List.set_cons_zero, List.set_cons_succ]
      refine wpAnyK_done (by kernel_rfl) ?_ _
      go_wp2_with fail
      refine bodyPost_ret (v := .agg #[.int .i64 (x - mostF bs.length (bsF bs) (othersT bs.length l) (ms.take k) batch), .int .i64 (mostF bs.length (bsF bs) l (ms.take k) batch)]) (results_cell_row rfl _ _ (w.heap.size + 1) 50 #[.int .i64 (x - mostF bs.length (bsF bs) (othersT bs.length l) (ms.take k) batch), .int .i64 (mostF bs.length (bsF bs) l (ms.take k) batch)] (0, 0) _ rfl ((HRN.out.below (HLV.out _ hM) HRN.out.lt).setRow _) Tryz.underlying50 rfl info_span2) rfl ⟨by rw [HX.out]; rfl, ?_⟩
      have hF := HB0.out.trans ((HLV.out _ hM).mono (by have := HZ.out; omega))
      exact hF.grown (grown_setRow _ _ _) hF.size (fun j e => by cases e; omega)
end Go.Proofs.YtkphgdkjjklajaaGreatDoor
