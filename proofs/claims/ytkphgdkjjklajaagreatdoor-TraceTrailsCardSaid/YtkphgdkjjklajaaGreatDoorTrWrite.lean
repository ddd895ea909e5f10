/-
  trace.Write: the trail of a net.
-/
import Derived.Test.YtkphgdkjjklajaaGreatDoorTrText
import Derived.Test.YtkphgdkjjklajaaGreatDoorTrChk
set_option linter.unusedVariables false
set_option linter.unusedSimpArgs false
namespace Go.Proofs.YtkphgdkjjklajaaGreatDoor
open Go.RowKit Go.Shelf Go.Sort

theorem net_i64 {bs : List Int} {ms : List Mv} (h : NetIn bs ms) : (∀ x ∈ bs, I64 x) ∧ ∀ m ∈ ms, I64 m.fr ∧ I64 m.to ∧ I64 m.g := by
  refine ⟨fun x hx => ?_, fun m hm => ?_⟩
  · have := h.gr x hx
    exact ⟨by omega, by omega⟩
  · obtain ⟨k, hk, rfl⟩ := List.getElem_of_mem hm
    have h1 := h.at_ hk
    have h2 := (h.has_bd k ms[k].fr).2
    have h3 := h1.f0
    have h4 := h1.f1
    have h5 := h1.t0
    have h6 := h1.t1
    have h7 := h1.g0
    have h8 := h1.g1
    have h9 := h.n1
    exact ⟨⟨by omega, by omega⟩, ⟨by omega, by omega⟩, ⟨by omega, by omega⟩⟩
/-- while a trail is written: the net's own copy, and the builder -/
structure NB (w : World) (Ab Am : Option Addr) (nb cb nm cm bB : Nat) (acc : List UInt8) (W : World) : Prop where
  low : Below w.heap.size w W
  blk : Blk W w.heap.size 25 #[.slice Ab nb cb, .slice Am nm cm]
  bl : Lib.IsBuilder 67 5 bB bB (Lib.byteCells acc) W
  lo : w.heap.size < bB
section
variable {w W W' : World} {Ab Am : Option Addr} {nb cb nm cm bB : Nat} {acc : List UInt8}
theorem NB.below (h : NB w Ab Am nb cb nm cm bB acc W) (hb : Below W.heap.size W W') : NB w Ab Am nb cb nm cm bB acc W' := ⟨h.low.trans (hb.mono h.low.size), h.blk.below hb h.blk.lt, isB_below h.bl hb, h.lo⟩
theorem NB.alloc (h : NB w Ab Am nb cb nm cm bB acc W) (o : Obj) : NB w Ab Am nb cb nm cm bB acc (W.alloc o) := h.below ((Below.refl _ W).alloc (Nat.le_refl _) o)
theorem NB.drew (h : NB w Ab Am nb cb nm cm bB acc W) : NB w Ab Am nb cb nm cm bB acc W.drew := h.below (Below.refl _ W).drew
theorem NB.size (h : NB w Ab Am nb cb nm cm bB acc W) : bB < W.heap.size := h.bl.elim (fun x => x.lt) (fun x => x.lt)
theorem nstr_any (h : NB w Ab Am nb cb nm cm bB acc W) (t : List UInt8) (hlen : acc.length + t.length ≤ 1000000) :
    Calls Tryz.prog 29 #[.pointer (some ⟨bB, 0, none⟩), .string ⟨t.toArray⟩] W fun e W' => (∃ v, e = .returned (.tuple #[.int .i64 v, .nilIface])) ∧ NB w Ab Am nb cb nm cm bB (acc ++ t) W' := by
  refine (Tryz.Builder_WriteString bB bB (Lib.byteCells acc) ⟨t.toArray⟩ W h.bl (by rw [Lib.byteCells_length]; simp [ByteArray.size]; omega) (Nat.le_of_lt h.size)).mono ?_
  rintro e W' ⟨rfl, hb, hB⟩
  refine ⟨⟨_, rfl⟩, h.low.trans (hB.mono (Nat.le_of_lt h.lo)), h.blk.below hB h.lo, .inr ?_, h.lo⟩
  rw [Lib.byteCells_append]
  exact hb
theorem nend_any (h : NB w Ab Am nb cb nm cm bB acc W) : Calls Tryz.prog 31 #[.pointer (some ⟨bB, 0, none⟩)] W fun e W' => e = .returned (.string ⟨acc.toArray⟩) ∧ Below w.heap.size w W' := by
  refine (Tryz.Builder_String_any bB bB acc W h.bl (Nat.le_of_lt h.size)).mono ?_
  rintro e W' ⟨rfl, hB⟩
  exact ⟨rfl, h.low.trans (hB.mono (Nat.le_of_lt h.lo))⟩
end

set_option maxRecDepth 100000 in
set_option maxHeartbeats 2000000 in
theorem twrite_any (b1 b2 : Nat) (Ab Am : Option Addr) (nb cb nm cm : Nat) (bs : List Int) (ms : List Mv) (w : World) (hM : NetM w b1 b2 Ab Am nb cb nm cm bs ms) (hnb : nb ≤ 100000) (hnm : nm ≤ 100000) (hp : Pow w) :
    Calls Tryz.prog 9 #[netV Ab Am nb cb nm cm] w fun e w' => e = .returned (.tuple #[.string ⟨(trailT bs ms).toArray⟩, .int .i64 (chkNet bs ms)]) ∧ Below w.heap.size w w' := by
  have HM := Lib.hid hM
  have HP := Lib.hid hp
  have HNB := Lib.hid hM.b.len
  have HNM := Lib.hid hM.m.len
  have hB0 : Below w.heap.size w (w.alloc (.cells #[.slice Ab nb cb, .slice Am nm cm] 25)) := (Below.refl _ w).alloc (Nat.le_refl _) _
  have hK0 := Blk.new w 25 #[.slice Ab nb cb, .slice Am nm cm]
  have HM0 := Lib.hid (hM.old hB0)
  have HB0 := Lib.hid hB0
  have HK0 := Lib.hid hK0
  have c0 := hK0.cell 0
  have c1 := hK0.cell 1
  clear hp hM hB0 hK0
  by_cases hc : chkNet bs ms = 0
  · have HC := Lib.hid hc
    have hN := netIn_of hc
    have HI := Lib.hid (net_i64 hN)
    have HT := Lib.hid (show trailT bs ms = trailR bs ms from if_pos hc)
    have hnb8 : nb ≤ 8 := by have := HNB.out; have := hN.n1; omega
    have hnm12 : nm ≤ 12 := by have := HNM.out; have := hN.m1; omega
    clear hc hN
    go_enter Tryz.func9, Tryz.ntmps9
    go_wp2_with fail
    refine (check_any b1 b2 Ab Am nb cb nm cm bs ms _ HM0.out hnb hnm).mono ?_
    rw [HC.out]
    rintro e w1 ⟨rfl, hb1⟩
    have HW := Lib.hid (show NB w Ab Am nb cb nm cm w1.heap.size [] (w1.alloc (.cells #[.pointer none, .slice none 0 0] 67)) from
      ⟨(HB0.out.trans (hb1.mono (by simp))).alloc (by have := hb1.size; simp at this; omega) _, (HK0.out.below hb1 HK0.out.lt).alloc _, Lib.fresh_isBuilder _ _ w1, by have := hb1.size; simp at this; omega⟩)
    clear c0 c1 hb1
    have c0 := HW.out.blk.cell 0
    go_wp2_with fail
    clear c0
    go_loopw [18] (fun i wr => ∃ k : Nat, k ≤ nb ∧ i = .int .i64 k ∧ NB w Ab Am nb cb nm cm w1.heap.size (batsR (bs.take k)) wr) (fun i _ => nb - (intOf i).toNat)
    case atStart => exact ⟨0, Nat.zero_le _, rfl, by simpa [batsR] using HW.out⟩
    case round =>
      obtain ⟨k, hk, rfl, hW⟩ := hrel
      have hst := batsR_le (bs.take k) (fun x hx => HI.out.1 x (List.mem_of_mem_take hx))
      have htl : (bs.take k).length ≤ 8 := by rw [List.length_take]; omega
      by_cases hlt : k < nb
      · have hk1 : k < bs.length := by have := HNB.out; omega
        obtain ⟨o, rfl, hbz, s0⟩ := (HM.out.b.old hW.low).atI hk1
        have HS := Lib.hid (batsR_snoc bs k hk1)
        have hxi := HI.out.1 _ (List.getElem_mem hk1)
        generalize bs[k] = y at s0 hxi HS
        have hle := batR_le hxi
        have HW4 := Lib.hid (hW.alloc (.cells #[.int .i64 y] 3))
        have HSL := Lib.hid (Sl.newI wr [y] 3)
        clear hW
        go_wp2_with fail
        refine (trow_any [98, 97, 116, 99, 104] _ 1 1 _ [y] _ HSL.out (fun z hz => by simp at hz; subst hz; exact hxi) (HP.out.old HW4.out.low) (by omega) (show (batR y).length ≤ 1000000 by omega)).mono ?_
        rintro e w4 ⟨rfl, hb4⟩
        have HW5 := Lib.hid (HW4.out.below hb4)
        clear hb4 HW4 HSL
        go_wp2_with fail
        refine (nstr_any HW5.out (batR y) (by omega)).mono ?_
        rintro e w5 ⟨⟨v5, rfl⟩, hW6⟩
        have HW6 := Lib.hid hW6
        clear hW6 HW5
        go_wp2_with fail
        exact ⟨⟨k + 1, by omega, by go_num, by rw [HS.out]; exact HW6.out⟩, by simp [intOf]; omega⟩
      · have hkl : bs.take k = bs := List.take_of_length_le (by have := HNB.out; omega)
        rw [hkl] at hW hst htl
        obtain rfl : nb = k := by omega
        have HWa := Lib.hid hW
        have c1 := hW.blk.cell 1
        clear hW
        obtain ⟨wq, rfl⟩ : ∃ wq : World, wq = wr := ⟨_, rfl⟩
        go_wp2_with fail
        clear c1
        go_loopw [30] (fun i wr => ∃ k : Nat, k ≤ nm ∧ i = .int .i64 k ∧ NB w Ab Am nb cb nm cm w1.heap.size (batsR bs ++ movsR (ms.take k)) wr) (fun i _ => nm - (intOf i).toNat)
        case atStart => exact ⟨0, Nat.zero_le _, rfl, by simpa [movsR] using HWa.out⟩
        case round =>
          obtain ⟨k, hk, rfl, hW⟩ := hrel
          have hst2 := movsR_le (ms.take k) (fun x hx => HI.out.2 x (List.mem_of_mem_take hx))
          have htl2 : (ms.take k).length ≤ 12 := by rw [List.length_take]; omega
          by_cases hlt2 : k < nm
          · have hk1 : k < ms.length := by have := HNM.out; omega
            obtain ⟨o, rfl, hbz, s0, s1, s2⟩ := (HM.out.m.old hW.low).atM hk1
            have HS := Lib.hid (movsR_snoc ms k hk1)
            have hxi := HI.out.2 _ (List.getElem_mem hk1)
            generalize ms[k] = y at s0 s1 s2 hxi HS
            have hle := movR_le hxi
            have HW4 := Lib.hid ((hW.alloc (.cells #[.int .i64 y.fr, .int .i64 y.to, .int .i64 y.g] 58)).alloc (.cells #[.int .i64 y.fr, .int .i64 y.to, .int .i64 y.g] 3))
            have hsl := Sl.newI (wr.alloc (.cells #[.int .i64 y.fr, .int .i64 y.to, .int .i64 y.g] 58)) [y.fr, y.to, y.g] 3
            simp only [World.size_alloc] at hsl
            have HSL := Lib.hid hsl
            clear hW hsl
            go_wp2_with fail
            refine (trow_any [109, 111, 118, 101] _ 3 3 _ [y.fr, y.to, y.g] _ HSL.out (fun z hz => by simp at hz; rcases hz with rfl | rfl | rfl; exact hxi.1; exact hxi.2.1; exact hxi.2.2) (HP.out.old HW4.out.low) (by omega) (show (movR y).length ≤ 1000000 by omega)).mono ?_
            rintro e w4 ⟨rfl, hb4⟩
            have HW5 := Lib.hid (HW4.out.below hb4)
            clear hb4 HW4 HSL
            go_wp2_with fail
            refine (nstr_any HW5.out (movR y) (by rw [List.length_append]; omega)).mono ?_
            rintro e w5 ⟨⟨v5, rfl⟩, hW6⟩
            have HW6 := Lib.hid hW6
            clear hW6 HW5
            go_wp2_with fail
            exact ⟨⟨k + 1, by omega, by go_num, by rw [HS.out, ← List.append_assoc]; exact HW6.out⟩, by simp [intOf]; omega⟩
          · have hkl2 : ms.take k = ms := List.take_of_length_le (by have := HNM.out; omega)
            rw [hkl2] at hW hst2 htl2
            obtain rfl : nm = k := by omega
            have hin : I64 (nm : Int) := ⟨by omega, by omega⟩
            have hle := endR_le hin
            have c1 := hW.blk.cell 1
            have HW4 := Lib.hid (hW.alloc (.cells #[.int .i64 (nm : Int)] 3))
            have HSL := Lib.hid (Sl.newI wr [(nm : Int)] 3)
            clear hW
            go_wp2_with fail
            refine (trow_any [101, 110, 100] _ 1 1 _ [(nm : Int)] _ HSL.out (fun z hz => by simp at hz; subst hz; exact hin) (HP.out.old HW4.out.low) (by omega) (show (endR (nm : Int)).length ≤ 1000000 by omega)).mono ?_
            rintro e w4 ⟨rfl, hb4⟩
            have HW5 := Lib.hid (HW4.out.below hb4)
            clear hb4 HW4 HSL c1
            go_wp2_with fail
            refine (nstr_any HW5.out (endR (nm : Int)) (by rw [List.length_append]; omega)).mono ?_
            rintro e w5 ⟨⟨v5, rfl⟩, hW6⟩
            have HW6 := Lib.hid hW6
            clear hW6 HW5
            go_wp2_with fail
            refine (nend_any HW6.out).mono ?_
            rintro e w6 ⟨rfl, hB6⟩
            have HB6 := Lib.hid hB6
            clear hB6
            go_wp2_with fail
            go_ret2
            exact ⟨by rw [HT.out, HC.out, trailR, HNM.out, List.append_assoc]; rfl, HB6.out⟩
  · have HC := Lib.hid hc
    have HT := Lib.hid (show trailT bs ms = [] from if_neg hc)
    go_enter Tryz.func9, Tryz.ntmps9
    go_wp2_with fail
    refine (check_any b1 b2 Ab Am nb cb nm cm bs ms _ HM0.out hnb hnm).mono ?_
    rintro e w1 ⟨rfl, hb1⟩
    have HB1 := Lib.hid (HB0.out.trans (hb1.mono (by simp)))
    have hne : (chkNet bs ms != 0) = true := by simpa using HC.out
    clear hb1
    go_wp2_with fail
    go_ret2
    exact ⟨by rw [HT.out]; rfl, HB1.out⟩
end Go.Proofs.YtkphgdkjjklajaaGreatDoor
