/-
  The reference: the words of a row.
-/
import Derived.Test.YtjmppionedcfeaaGreatDoorParse
import Derived.Test.YtjmppionedcfeaaGreatDoorRSplit
set_option linter.unusedVariables false
set_option linter.unusedSimpArgs false
namespace Go.Proofs.YtjmppionedcfeaaGreatDoor
open Go.RowKit

theorem rsplit32 (s : ByteArray) (W : World) (hs : s.size ≤ 100000) :
    Calls Tryz.prog 38 #[.string s, .int .u8 32] W fun e W' => ∃ A' c' b', e = .returned (.slice A' (splitT 32 s.data.toList).length c') ∧ Sl encT 1 W' b' A' (splitT 32 s.data.toList).length (splitT 32 s.data.toList) ∧ Below W.heap.size W W' := rsplit_any 32 s W hs
theorem rsplit10 (s : ByteArray) (W : World) (hs : s.size ≤ 100000) :
    Calls Tryz.prog 38 #[.string s, .int .u8 10] W fun e W' => ∃ A' c' b', e = .returned (.slice A' (splitT 10 s.data.toList).length c') ∧ Sl encT 1 W' b' A' (splitT 10 s.data.toList).length (splitT 10 s.data.toList) ∧ Below W.heap.size W W' := rsplit_any 10 s W hs

set_option maxRecDepth 100000 in
set_option maxHeartbeats 2000000 in
theorem rparse_any (s : ByteArray) (W : World) (hs : s.size ≤ 100000) : Calls Tryz.prog 39 #[.string s] W (ParsePost (parseT s.data.toList) W) := by
  have hlen := bytes_len s
  obtain ⟨x, hx⟩ : ∃ x, x = s.data.toList := ⟨_, rfl⟩
  obtain ⟨i0, hi, iz0, iz1, iz2⟩ := info_parts info_int
  go_enter Tryz.func39, Tryz.ntmps39
  go_wp2_with fail
  refine (rsplit32 s W hs).mono ?_
  rw [← hx]
  obtain ⟨w0, ws, hL⟩ : ∃ w0 ws, splitT 32 x = w0 :: ws := by
    cases h : splitT 32 x with
    | nil => exact absurd h (splitT_ne 32 x)
    | cons a r => exact ⟨a, r, rfl⟩
  rw [hL]
  rintro e w1 ⟨A1, c1, b1, rfl, hS, hB⟩
  have hlenM : ws.length ≤ 100001 := by have h5 := splitT_many 32 x; rw [hL] at h5; simp at h5; rw [hx] at h5; omega
  have HL := Lib.hid hL
  have HS := Lib.hid hS
  have HB := Lib.hid hB
  have HXX := Lib.hid hx
  have hzw : W.heap.size ≤ w1.heap.size := hB.size
  clear hL hS hB hx
  simp only [List.length_cons]
  go_wp2_with fail
  go_loopw [6, 7] (fun v i wr => ∃ (k c' : Nat) (A' : Option Addr), k ≤ ws.length ∧ i = .int .i64 ((k + 1 : Nat) : Int) ∧ v = .slice A' k c' ∧ (ws.take k).all okW = true ∧ wr.ownsRow w1.heap.size 3 1 (.slice A' k c') k (((ws.take k).map valW).flatMap encI) ∧ Below w1.heap.size w1 wr) (fun _ i _ => ws.length + 1 - (intOf i).toNat)
  case atStart => exact ⟨0, 0, none, by omega, rfl, rfl, rfl, World.ownsRow_nil _ _ _ _, Below.refl _ _⟩
  case round =>
    obtain ⟨k, c', A', hk, rfl, rfl, hok, hown, hB'⟩ := hrel
    have HB' := Lib.hid hB'
    have HOW := Lib.hid hown
    have HOK := Lib.hid hok
    have hzr := hB'.size
    clear hB' hown hok
    by_cases hlt : k < ws.length
    · obtain ⟨o, rfl, hgz, hcy⟩ := (HS.out.old HB'.out).atT (k := k + 1) (by simp; omega)
      rw [List.getElem_cons_succ] at hcy
      have HTK := Lib.hid (show (ws.take (k + 1)).all okW = ((ws.take k).all okW && okW ws[k]) by rw [List.take_succ_eq_append_getElem hlt, List.all_append]; simp)
      have HMP := Lib.hid (show ((ws.take (k + 1)).map valW).flatMap encI = ((ws.take k).map valW).flatMap encI ++ encI (valW ws[k]) by rw [List.take_succ_eq_append_getElem hlt, List.map_append, List.flatMap_append]; simp)
      have HNO := Lib.hid (fun h : okW ws[k] = false => (show parseT x = none by
        unfold parseT
        rw [HL.out]
        have : ¬ ws.all okW = true := fun e => by rw [List.all_eq_true] at e; rw [e _ (List.getElem_mem hlt)] at h; cases h
        simp [this]))
      generalize ws[k] = y at hcy HTK HMP HNO
      obtain ⟨sy, hsy⟩ : ∃ sy : ByteArray, sy = ⟨y.toArray⟩ := ⟨_, rfl⟩
      have hyd : sy.data.toList = y := by rw [hsy]
      rw [← hsy] at hcy
      have ik0 : (0 : Int) ≤ ((k + 1 : Nat) : Int) := by omega
      have ik1 : ((k + 1 : Nat) : Int) < ((ws.length + 1 : Nat) : Int) := by omega
      have ik2 : (0 : Int) ≤ (k : Int) + 1 := by omega
      have ik3 : (k : Int) + 1 < (ws.length : Int) + 1 := by omega
      have HSY := Lib.hid hsy
      clear hsy
      cases hoy : okW y
      · have HE := Lib.hid (show numE y = .tuple #[.int .i64 0, .bool false] from numE_none (by simpa [okW] using hoy))
        go_wp2_with fail
        refine (number_any sy _).mono ?_
        rw [hyd, HE.out]
        rintro e w2 ⟨rfl, hB2⟩
        have HB2 := Lib.hid (HB'.out.trans (hB2.mono hzr))
        clear hB2 hcy
        go_wp2_with fail
        go_ret3
        rw [← HXX.out, HNO.out hoy]
        exact ⟨rfl, HB.out.trans (HB2.out.mono hzw)⟩
      · obtain ⟨n, hn⟩ : ∃ n, numT 6 y = some n := by simpa [okW, Option.isSome_iff_exists] using hoy
        have HE := Lib.hid (show numE y = .tuple #[.int .i64 n, .bool true] from numE_some hn)
        have HVW := Lib.hid (show valW y = (n : Int) by unfold valW; rw [hn]; rfl)
        clear hn
        go_wp2_with fail
        refine (number_any sy _).mono ?_
        rw [hyd, HE.out]
        rintro e w2 ⟨rfl, hB2⟩
        have HB2 := Lib.hid (HB'.out.trans (hB2.mono hzr))
        have HOW3 := Lib.hid (ownsRow_below HOW.out hB2 (Nat.le_refl _))
        have hz2 := HB2.out.size
        clear hB2 hcy
        go_wp2_with (at_builtin; refine wpList_append_lies _ rfl _ _ 25 rfl w1.heap.size 3 i0 _ 1 8 Tryz.underlying25 hi iz0 iz1 iz2 rfl (by omega) _ k _ (by rfl) (HOW3.out.alloc _) ⟨w2.heap.size, 0, none⟩ 1 1 [.int .i64 n] (by rfl) (by rfl) (World.news_of_block (heap_alloc_new w2 _)) (by simp [Value.oneCell']) (by omega) (by unfold maxLen; omega) (by omega) (by rw [World.size_alloc]; omega) (w2.heap.size + 1) (by simp) ?_; intro g' cap w4 hown4 hgrow hat hlt4)
        have HB4 := Lib.hid (below_own (HOW3.out.alloc _) hgrow (HB2.out.alloc hz2 _) (Nat.le_refl _) (Nat.le_refl _))
        have HO4 := Lib.hid hown4
        clear hown4 hgrow hat hlt4
        go_roundw
        case rel => exact ⟨k + 1, cap, _, by omega, by go_num, rfl, by rw [HTK.out, HOK.out, hoy]; rfl, by rw [HMP.out, HVW.out]; exact HO4.out, HB4.out⟩
        case measure => simp [intOf]; omega
    · have hkl : ws.take k = ws := List.take_of_length_le (by omega)
      have hkn : k = ws.length := by omega
      rw [hkl] at HOW HOK
      subst hkn
      obtain ⟨b', hb', hSI⟩ := Sl.of_own encI_len (by simp) HOW.out
      have HSI := Lib.hid hSI
      have HP := Lib.hid (show parseT x = some (w0, ws.map valW) by unfold parseT; rw [HL.out]; simp only [HOK.out, if_true])
      obtain ⟨o, rfl, hgz, hc0⟩ := (HS.out.old HB'.out).atT (k := 0) (by simp)
      have hc1 : wr.cell? ⟨b1, o, none⟩ = some (.string ⟨w0.toArray⟩) := hc0
      clear hSI
      go_wp2_with fail
      go_ret3
      rw [← HXX.out, HP.out]
      exact ⟨A', c', b', by rw [List.length_map]; rfl, by rw [List.length_map]; exact HSI.out, Nat.le_trans hzw hb', HB.out.trans (HB'.out.mono hzw)⟩
end Go.Proofs.YtjmppionedcfeaaGreatDoor
