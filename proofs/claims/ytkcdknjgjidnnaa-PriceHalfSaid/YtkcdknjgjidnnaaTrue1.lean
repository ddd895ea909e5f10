/-
  What truly is sold: truthOf, takings, pushed of the laws; Fair of the reference.
-/
import Derived.Test.YtkcdknjgjidnnaaExact
import Derived.Test.YtkcdknjgjidnnaaStepsOf
import Derived.Test.YtkcdknjgjidnnaaChk
import Derived.Deep.QuietTactic
import Derived.BigQuiet
set_option linter.unusedVariables false
set_option linter.unusedSimpArgs false
namespace Go.Proofs.Ytkcdknjgjidnnaa
open Go.RowKit

set_option maxRecDepth 100000 in
set_option maxHeartbeats 1000000 in
theorem takings_any (st gd s : Int) (b n c b2 n2 c2 : Nat) (A A2 : Option Addr) (l : List Sale) (t : List Sold) (w : World) (hl : Sl encS 6 w b A n l) (ht : Sl encD 2 w b2 A2 n2 t) (hlen : t.length = l.length)
    (hin : ∀ x ∈ exactS l t, SaleIn st gd x) (hn : n ≤ 40) :
    Calls Try.prog 37 #[.agg #[.int .i64 st, .int .i64 gd, .slice A n c], .slice A2 n2 c2, .int .i64 s] w fun e w' => e = .returned (.int .i64 (turn (exactS l t) s).lo) ∧ Below w.heap.size w w' := by
  have HA := Lib.hid hl.len
  have HA2 := Lib.hid (show n2 = n by rw [ht.len, hl.len, hlen])
  have HL := Lib.hid hl
  have HT := Lib.hid ht
  have HLen := Lib.hid hlen
  have HIn := Lib.hid hin
  have hn2 : n2 ≤ 40 := by have := HA2.out; omega
  clear hl ht hlen hin
  go_enter Try.func37, Try.ntmps37
  go_wp2_with fail
  go_loopw [7, 8] (fun v i wr => ∃ k : Nat, k ≤ n2 ∧ i = .int .i64 k ∧ v = .int .i64 (turn ((exactS l t).take k) s).lo ∧ OverBook w st gd A n c wr) (fun _ i _ => n2 - (intOf i).toNat)
  case atStart => exact ⟨0, by omega, rfl, rfl, OverBook.start w st gd A n c⟩
  case round =>
    obtain ⟨k, hk, rfl, rfl, hO⟩ := hrel
    have HO := Lib.hid hO
    have c2' := hO.blk.cell 2
    have hz := hO.blk.lt
    clear hO
    by_cases hlt : k < n2
    · have hk1 : k < l.length := by have := HA.out; have := HA2.out; omega
      have hk2 : k < t.length := by have := HLen.out; omega
      have hk3 : k < (exactS l t).length := by rw [exactS_len HLen.out]; exact hk1
      obtain ⟨o, rfl, hbz, s0, s1, s2, s3, s4, s5⟩ := (HL.out.old HO.out.low).atS hk1
      obtain ⟨o2, rfl, hbz2, t0, t1⟩ := (HT.out.old HO.out.low).atD hk2
      have HP := Lib.hid (turn_snoc ((exactS l t).take k) (exactS l t)[k] s)
      have HQ := Lib.hid (show (exactS l t).take (k + 1) = (exactS l t).take k ++ [(exactS l t)[k]] from take_snoc _ k hk3)
      have hX := exactS_get hk1 hk2 hk3
      have hxi := HIn.out _ (List.getElem_mem hk3)
      rw [hX] at hxi
      have hgr0 := hxi.gl0
      have hgr1 : t[k].gr ≤ 100000 := hxi.gh1
      have hce0 : 0 ≤ t[k].ce := hxi.cl0
      have hce1 : t[k].ce ≤ 100000 := hxi.ch1
      have hgr0' : 0 ≤ t[k].gr := hgr0
      obtain ⟨m1, m2⟩ := sale_bd hgr0' hgr1 hce0 hce1
      obtain ⟨u1, u2, u3⟩ := turn_bd (l := (exactS l t).take k) (fun x hx => HIn.out x (List.mem_of_mem_take hx)) s
      have u4 : (((exactS l t).take k).length : Int) ≤ 40 := by have := List.length_take_le k (exactS l t); omega
      have u5 : (turn ((exactS l t).take k) s).lo ≤ 400000000 := by omega
      rw [hX] at HP HQ
      have hst : (exactOne l[k] t[k]).st = l[k].st := rfl
      have hm1 : (exactOne l[k] t[k]).gl * (exactOne l[k] t[k]).cl = t[k].gr * t[k].ce := rfl
      have HST := Lib.hid hst
      have HM1 := Lib.hid hm1
      clear hX hxi hgr0 u2 u3 u4 hst hm1
      generalize exactOne l[k] t[k] = x at HP HQ HST HM1
      generalize turn ((exactS l t).take k) s = u at u1 u5 HP ⊢
      generalize l[k] = y at s0 s1 s2 s3 s4 s5 HST
      generalize t[k] = z at t0 t1 hgr0' hgr1 hce0 hce1 m1 m2 HM1
      have i0 : (0 : Int) ≤ (k : Int) := by omega
      have i1 : (k : Int) < (n : Int) := by have := HA2.out; omega
      have i2 : (k : Int) < (n2 : Int) := by omega
      by_cases hs : y.st = s
      · have hsb : (y.st == s) = true := by simpa using hs
        have HS := Lib.hid hs
        clear hs
        go_wp2_with fail
        go_quiet (fail)
        go_wp2_with fail
        go_roundw
        case rel => exact ⟨k + 1, by omega, by go_num, by rw [HQ.out, HP.out, if_pos (by rw [HST.out]; exact HS.out), HM1.out], ⟨below_drewN HO.out.low _, HO.out.blk⟩⟩
        case measure => simp [intOf]; omega
      · have hsb : (y.st == s) = false := by simpa using hs
        have HS := Lib.hid hs
        clear hs
        go_wp2_with fail
        go_roundw
        case rel => exact ⟨k + 1, by omega, by go_num, by rw [HQ.out, HP.out, if_neg (by rw [HST.out]; exact HS.out)], HO.out⟩
        case measure => simp [intOf]; omega
    · have HK := Lib.hid (show n2 ≤ k by omega)
      go_wp2_with fail
      go_ret
      refine ⟨ret_int ?_, HO.out.low⟩
      rw [List.take_of_length_le (by rw [exactS_len HLen.out]; have := HA.out; have := HA2.out; have := HK.out; omega)]
end Go.Proofs.Ytkcdknjgjidnnaa
