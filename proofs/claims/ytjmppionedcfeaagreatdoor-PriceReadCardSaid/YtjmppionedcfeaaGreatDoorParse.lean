/-
  The words of a row: price.parse.
-/
import Derived.Test.YtjmppionedcfeaaGreatDoorStrs
set_option linter.unusedVariables false
set_option linter.unusedSimpArgs false
namespace Go.Proofs.YtjmppionedcfeaaGreatDoor
open Go.RowKit

def okW (y : List UInt8) : Bool := (numT 6 y).isSome
def valW (y : List UInt8) : Int := ((numT 6 y).getD 0 : Nat)
def parseT (x : List UInt8) : Option (List UInt8 × List Int) := match splitT 32 x with
  | [] => none
  | w :: ws => if ws.all okW then some (w, ws.map valW) else none
def ParsePost (o : Option (List UInt8 × List Int)) (W : World) (e : Ending) (W' : World) : Prop := match o with
  | some (wd, l) => ∃ A c b, e = .returned (.tuple #[.string ⟨wd.toArray⟩, .slice A l.length c, .bool true]) ∧ Sl encI 1 W' b A l.length l ∧ W.heap.size ≤ b ∧ Below W.heap.size W W'
  | none => e = .returned (.tuple #[.string ⟨#[]⟩, .slice none 0 0, .bool false]) ∧ Below W.heap.size W W'

theorem splitT_len (c : UInt8) : ∀ (s y : List UInt8), y ∈ splitT c s → y.length ≤ s.length
  | [], y, h => by simp [splitT] at h; simp [h]
  | x :: r, y, h => by
    unfold splitT at h
    have ih := splitT_len c r
    split at h
    · rcases List.mem_cons.1 h with rfl | h
      · simp
      · have := ih y h; simp; omega
    · split at h
      · simp at h; simp [h]
      · rename_i a t ht
        rw [ht] at ih
        rcases List.mem_cons.1 h with rfl | h
        · have := ih a List.mem_cons_self; simp; omega
        · have := ih y (List.mem_cons_of_mem _ h); simp; omega
theorem splitT_many (c : UInt8) : ∀ (s : List UInt8), (splitT c s).length ≤ s.length + 1
  | [] => by simp [splitT]
  | x :: r => by
    unfold splitT
    have ih := splitT_many c r
    split
    · simp; omega
    · split
      · simp
      · rename_i a t ht
        rw [ht] at ih
        simp at ih ⊢
        omega
theorem Sl.drop1T {w : World} {b n : Nat} {a : List UInt8} {l : List (List UInt8)} (h : Sl encT 1 w b (some ⟨b, 0, none⟩) n (a :: l)) : Sl encT 1 w b (some ⟨b, 1, none⟩) (n - 1) l := by
  have hl := h.len
  simp only [List.length_cons] at hl
  refine ⟨by omega, fun hn => ?_⟩
  obtain ⟨o, ho, hz, hc⟩ := h.2 (by omega)
  obtain rfl : 0 = o := by injection ho with h; injection h
  refine ⟨1, rfl, hz, fun k hk j u hu => ?_⟩
  have := hc (k + 1) (by simp; omega) j u (by simpa using hu)
  rw [show 1 + k * 1 + j = 0 + (k + 1) * 1 + j by omega]
  exact this

set_option maxRecDepth 100000 in
set_option maxHeartbeats 2000000 in
theorem parse_any (s : ByteArray) (W : World) (hT : TEnv W) (hs : s.size ≤ 100000) : Calls Tryz.prog 37 #[.string s] W (ParsePost (parseT s.data.toList) W) := by
  have HT := Lib.hid hT
  have hlen := bytes_len s
  obtain ⟨x, hx⟩ : ∃ x, x = s.data.toList := ⟨_, rfl⟩
  obtain ⟨i0, hi, iz0, iz1, iz2⟩ := info_parts info_int
  clear hT
  go_enter Tryz.func37, Tryz.ntmps37
  go_wp2_with fail
  refine (split_any 32 s W HT.out (by omega)).mono ?_
  rw [← hx]
  obtain ⟨w0, ws, hL⟩ : ∃ w0 ws, splitT 32 x = w0 :: ws := by
    cases h : splitT 32 x with
    | nil => exact absurd h (splitT_ne 32 x)
    | cons a r => exact ⟨a, r, rfl⟩
  rw [hL]
  rintro e w1 ⟨g, rfl, hg, hS, hB⟩
  have hNe : (w0 :: ws).length = ws.length + 1 := rfl
  generalize (w0 :: ws).length = N at hS hNe ⊢
  have hN1 : (1 : Int) ≤ (N : Int) := by omega
  have HL := Lib.hid hL
  have HNE := Lib.hid hNe
  have HS := Lib.hid hS
  have HB := Lib.hid hB
  clear hL hNe hS hB
  by_cases hN : N = 1
  · obtain rfl : ws = [] := by cases ws with
      | nil => rfl
      | cons a r => have := HNE.out; simp at this; omega
    subst hN
    go_wp2_with fail
    go_loopw [6, 16] (fun v i wr => v = .slice none 0 0 ∧ i = .int .i64 0 ∧ wr = w1) (fun _ _ _ => 0)
    case atStart => exact ⟨rfl, rfl, rfl⟩
    case round =>
      obtain ⟨rfl, rfl, rfl⟩ := hrel
      obtain ⟨o, ho, hgz, hc0⟩ := HS.out.atT (k := 0) (by simp)
      obtain rfl : 0 = o := by injection ho with h; injection h
      have HP := Lib.hid (show parseT x = some (w0, []) by unfold parseT; rw [HL.out]; rfl)
      go_wp2_with fail
      go_ret3
      rw [← hx, HP.out]
      exact ⟨none, 0, W.heap.size, rfl, Sl.nil _ _ _, Nat.le_refl _, HB.out⟩
  · obtain rfl : N = ws.length + 1 := HNE.out
    have hM1 : (1 : Int) ≤ (ws.length : Int) := by omega
    have HW := Lib.hid HS.out.drop1T
    have hlenM : ws.length ≤ 100001 := by have h5 := splitT_many 32 x; rw [HL.out] at h5; simp at h5; rw [hx] at h5; omega
    have HY := Lib.hid (fun y (hy : y ∈ ws) => (show y.length ≤ 100000 by have h5 := splitT_len 32 x y (by rw [HL.out]; exact List.mem_cons_of_mem _ hy); rw [hx] at h5; omega))
    have hzw : W.heap.size ≤ w1.heap.size := HB.out.size
    have HXX := Lib.hid hx
    have hw0 : ¬ ws.length = 0 := by omega
    have hwn : ¬ ws = [] := fun e => hw0 (by rw [e]; rfl)
    clear hx
    go_wp2_with fail
    go_loopw [6, 16] (fun v i wr => ∃ (k c' : Nat) (A' : Option Addr), k ≤ ws.length ∧ i = .int .i64 k ∧ v = .slice A' k c' ∧ (ws.take k).all okW = true ∧ wr.ownsRow w1.heap.size 3 1 (.slice A' k c') k (((ws.take k).map valW).flatMap encI) ∧ Below w1.heap.size w1 wr) (fun _ i _ => ws.length - (intOf i).toNat)
    case atStart => exact ⟨0, 0, none, by omega, rfl, rfl, rfl, World.ownsRow_nil _ _ _ _, Below.refl _ _⟩
    case round =>
      obtain ⟨k, c', A', hk, rfl, rfl, hok, hown, hB'⟩ := hrel
      have HB' := Lib.hid hB'
      have HOW := Lib.hid hown
      have HOK := Lib.hid hok
      have hzr := hB'.size
      clear hB' hown hok
      by_cases hlt : k < ws.length
      · obtain ⟨o, ho, hgz, hcy⟩ := (HW.out.old HB'.out).atT hlt
        obtain rfl : 1 = o := by injection ho with h; injection h
        have hyl := HY.out ws[k] (List.getElem_mem hlt)
        have HTK := Lib.hid (show (ws.take (k + 1)).all okW = ((ws.take k).all okW && okW ws[k]) by rw [List.take_succ_eq_append_getElem hlt, List.all_append]; simp)
        have HMP := Lib.hid (show ((ws.take (k + 1)).map valW).flatMap encI = ((ws.take k).map valW).flatMap encI ++ encI (valW ws[k]) by rw [List.take_succ_eq_append_getElem hlt, List.map_append, List.flatMap_append]; simp)
        have HNO := Lib.hid (fun h : okW ws[k] = false => (show parseT x = none by
          unfold parseT
          rw [HL.out]
          have : ¬ ws.all okW = true := fun e => by rw [List.all_eq_true] at e; rw [e _ (List.getElem_mem hlt)] at h; cases h
          simp [this]))
        generalize ws[k] = y at hcy hyl HTK HMP HNO
        obtain ⟨sy, hsy⟩ : ∃ sy : ByteArray, sy = ⟨y.toArray⟩ := ⟨_, rfl⟩
        have hyd : sy.data.toList = y := by rw [hsy]
        have hysz : sy.size = y.length := by rw [← hyd]; exact (bytes_len sy).symm
        rw [← hsy] at hcy
        have ik0 : (0 : Int) ≤ (k : Int) := by omega
        have ik1 : (k : Int) < (ws.length : Int) := by omega
        have HSY := Lib.hid hsy
        clear hsy ho
        go_wp2_with fail
        refine (atoi_any sy _ (HT.out.old (HB.out.trans (HB'.out.mono hzw))) (by omega)).mono ?_
        rw [hyd]
        rintro e w2 ⟨v, er, rfl, hcase, hB2⟩
        have HB2 := Lib.hid (HB'.out.trans (hB2.mono hzr))
        have HOW2 := Lib.hid (ownsRow_below HOW.out hB2 (Nat.le_refl _))
        have HTE := Lib.hid (HT.out.old (HB.out.trans (HB2.out.mono hzw)))
        have hz2 := HB2.out.size
        clear hB2 hcy hgz
        cases hoy : okW y
        · have hnn : numT 6 y = none := by simpa [okW] using hoy
          rcases hcase with ⟨rfl, hv⟩ | ⟨⟨tp, p, rfl⟩, _⟩
          · obtain ⟨vb0, vb1⟩ := Lib.atoiAll_bounds hv
            by_cases hv0 : v < 0
            · have t1 : decide (v < 0) = true := by simpa using hv0
              clear hnn
              go_wp2_with fail
              go_ret3
              rw [← HXX.out, HNO.out hoy]
              exact ⟨rfl, HB.out.trans (HB2.out.mono hzw)⟩
            · have t1 : decide (v < 0) = false := by simpa using hv0
              by_cases hy6 : 6 < sy.size
              · have t2 : decide ((6 : Int) < (sy.size : Int)) = true := by simp; omega
                clear hnn
                go_wp2_with fail
                go_ret3
                rw [← HXX.out, HNO.out hoy]
                exact ⟨rfl, HB.out.trans (HB2.out.mono hzw)⟩
              · have t2 : decide ((6 : Int) < (sy.size : Int)) = false := by simp; omega
                obtain ⟨q, hq⟩ : ∃ q : ByteArray, q = ⟨(Lib.itoa v).toArray⟩ := ⟨_, rfl⟩
                have hne : ¬ q = sy := fun e => by
                  have h1 : Lib.itoa v = y := by rw [← hyd, ← e, hq]
                  have h2 := num_of_atoi (mx := 6) (by omega) (by omega) h1
                  rw [hnn] at h2
                  cases h2
                have hnb : (q.toList == sy.toList) = false := by rw [beq_eq_false_iff_ne, ByteArray.toList_eq, ByteArray.toList_eq]; exact fun e => hne (by rw [← bytes_back q, e, bytes_back])
                have HQ := Lib.hid hq
                clear hnn hq hne
                go_wp2_with fail
                refine (itoa_any v ⟨vb0, vb1⟩ _ HTE.out.pow).mono ?_
                rw [← HQ.out]
                rintro e w3 ⟨rfl, hB3⟩
                have HB3 := Lib.hid (HB2.out.trans (hB3.mono hz2))
                clear hB3
                go_wp2_with fail
                go_ret3
                rw [← HXX.out, HNO.out hoy]
                exact ⟨rfl, HB.out.trans (HB3.out.mono hzw)⟩
          · clear hnn
            go_wp2_with fail
            go_ret3
            rw [← HXX.out, HNO.out hoy]
            exact ⟨rfl, HB.out.trans (HB2.out.mono hzw)⟩
        · obtain ⟨n, hn⟩ : ∃ n, numT 6 y = some n := by simpa [okW, Option.isSome_iff_exists] using hoy
          obtain ⟨ha, hit⟩ := atoi_of_num (numT_mono hn (by omega))
          have hn7 := numT_lt (numT_mono hn (by omega : 6 ≤ 7))
          obtain ⟨rfl, hv⟩ : er = .nilIface ∧ v = n := by
            rcases hcase with ⟨rfl, hv⟩ | ⟨_, hv⟩
            · rw [ha] at hv
              exact ⟨rfl, by injection hv with hv; exact hv.symm⟩
            · exact absurd ha (hv _)
          subst hv
          have hl6 : sy.size ≤ 6 := by have := (numT_iff.1 hn).2; omega
          have t1 : decide ((n : Int) < 0) = false := by simp
          have t2 : decide ((6 : Int) < (sy.size : Int)) = false := by simp; omega
          have HVW := Lib.hid (show valW y = (n : Int) by unfold valW; rw [hn]; rfl)
          have HQ := Lib.hid (show (⟨(Lib.itoa (n : Int)).toArray⟩ : ByteArray) = sy by rw [hit, HSY.out])
          clear ha hit hn hcase
          go_wp2_with fail
          refine (itoa_any n ⟨by omega, by omega⟩ _ HTE.out.pow).mono ?_
          rw [HQ.out]
          rintro e w3 ⟨rfl, hB3⟩
          have HB3 := Lib.hid (HB2.out.trans (hB3.mono hz2))
          have HOW3 := Lib.hid (ownsRow_below HOW2.out hB3 (Nat.le_refl _))
          have hz3 := HB3.out.size
          clear hB3
          go_wp2_with (at_builtin; refine wpList_append_lies _ rfl _ _ 25 rfl w1.heap.size 3 i0 _ 1 8 Tryz.underlying25 hi iz0 iz1 iz2 rfl (by omega) _ k _ (by rfl) (HOW3.out.alloc _) ⟨w3.heap.size, 0, none⟩ 1 1 [.int .i64 n] (by rfl) (by rfl) (World.news_of_block (heap_alloc_new w3 _)) (by simp [Value.oneCell']) (by omega) (by unfold maxLen; omega) (by omega) (by rw [World.size_alloc]; omega) (w3.heap.size + 1) (by simp) ?_; intro g' cap w4 hown4 hgrow hat hlt4)
          have HB4 := Lib.hid (below_own (HOW3.out.alloc _) hgrow (HB3.out.alloc hz3 _) (Nat.le_refl _) (Nat.le_refl _))
          have HO4 := Lib.hid hown4
          clear hown4 hgrow hat hlt4
          go_roundw
          case rel => exact ⟨k + 1, cap, _, by omega, by go_num, rfl, by rw [HTK.out, HOK.out, hoy]; rfl, by rw [HMP.out, HVW.out]; exact HO4.out, HB4.out⟩
          case measure => simp [intOf]; omega
      · have hkl : ws.take k = ws := List.take_of_length_le (by omega)
        have hkn : k = ws.length := by omega
        rw [hkl] at HOW HOK
        subst hkn
        obtain ⟨b', hb', hSI⟩ := Sl.of_own encI_len (by simp) HOW.out
        have HSI := Lib.hid hSI
        have HP := Lib.hid (show parseT x = some (w0, ws.map valW) by unfold parseT; rw [HL.out]; simp only [HOK.out, if_true])
        obtain ⟨o, ho, hgz, hc0⟩ := (HS.out.old HB'.out).atT (k := 0) (by simp)
        obtain rfl : 0 = o := by injection ho with h; injection h
        clear hSI ho
        go_wp2_with fail
        go_ret3
        rw [← HXX.out, HP.out]
        exact ⟨A', c', b', by rw [List.length_map]; rfl, by rw [List.length_map]; exact HSI.out, Nat.le_trans hzw hb', HB.out.trans (HB'.out.mono hzw)⟩
end Go.Proofs.YtjmppionedcfeaaGreatDoor
