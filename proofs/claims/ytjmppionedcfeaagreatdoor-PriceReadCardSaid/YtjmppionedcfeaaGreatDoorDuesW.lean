/-
  Turnovers of all stalls, and of one. Turnover and Dues of the program.
-/
import Derived.Test.YtjmppionedcfeaaGreatDoorChk
import Derived.Test.YtjmppionedcfeaaGreatDoorMap
import Derived.Test.YtjmppionedcfeaaGreatDoorDues
import Derived.Test.YtjmppionedcfeaaGreatDoorApp
set_option linter.unusedVariables false
set_option linter.unusedSimpArgs false
namespace Go.Proofs.YtjmppionedcfeaaGreatDoor
open Go.RowKit

def zSpan : Value := .agg #[.int .i64 0, .int .i64 0]
theorem zeroSpan (w : World) : (zeroValue 42).run Tryz.prog w = .ok zSpan w := by kernel_rfl
theorem field_span0 (x y : Int) (w : World) : (Instr.field 42 (.agg #[.int .i64 x, .int .i64 y]) 0).run Tryz.prog w = .ok (.int .i64 x) w := by kernel_rfl
theorem field_span1 (x y : Int) (w : World) : (Instr.field 42 (.agg #[.int .i64 x, .int .i64 y]) 1).run Tryz.prog w = .ok (.int .i64 y) w := by kernel_rfl
def vSpan (s : Span) : Value := .agg #[.int .i64 s.lo, .int .i64 s.hi]

/-- a map that holds turnovers -/
def TMap (w : World) (b : Nat) (l : List Sale) : Prop := ∃ L, IMap w b L ∧ ∀ s, (look s L).getD zSpan = vSpan (turn l s)
theorem TMap.lt {w : World} {b : Nat} {l : List Sale} (h : TMap w b l) : b < w.heap.size := by obtain ⟨L, h, _⟩ := h; exact h.lt
theorem TMap.keep {w w' : World} {b : Nat} {l : List Sale} (h : TMap w b l) (hb : w'.heap[b]? = w.heap[b]?) : TMap w' b l := by obtain ⟨L, h, h2⟩ := h; exact ⟨L, h.keep hb, h2⟩
theorem TMap.alloc {w : World} {b : Nat} {l : List Sale} (h : TMap w b l) (o : Obj) : TMap (w.alloc o) b l := h.keep (Below.heap_alloc w o b h.lt)
theorem TMap.drew {w : World} {b : Nat} {l : List Sale} (h : TMap w b l) : TMap w.drew b l := h
theorem TMap.look {w : World} {b : Nat} {l : List Sale} (h : TMap w b l) (s : Int) : (Instr.lookup 94 (.map (some b)) (.int .i64 s) false).run Tryz.prog w = .ok (vSpan (turn l s)) w := by
  obtain ⟨L, h, h2⟩ := h
  rw [run_lookupI Tryz.underlying94 Tryz.underlying3 zeroSpan h s, h2]

set_option maxRecDepth 100000 in
set_option maxHeartbeats 1000000 in
theorem turnovers_any (st gd : Int) (b n c : Nat) (A : Option Addr) (l : List Sale) (w : World) (hl : Sl encS 6 w b A n l) (hin : BookIn st gd l) :
    Calls Tryz.prog 50 #[.agg #[.int .i64 st, .int .i64 gd, .slice A n c]] w fun e w' => ∃ m, e = .returned (.map (some m)) ∧ w.heap.size ≤ m ∧ TMap w' m l ∧ Below w.heap.size w w' := by
  have HA := Lib.hid hl.len
  have hn40 : n ≤ 40 := by have := hin.len; have := hl.len; omega
  have HL := Lib.hid hl
  have HI := Lib.hid hin
  have hmm := @run_makeMap Tryz.prog
  clear hl hin
  go_enter Tryz.func50, Tryz.ntmps50
  go_wp2_with fail
  go_loopw [11] (fun i wr => ∃ k : Nat, k ≤ n ∧ i = .int .i64 k ∧ OverBook w st gd A n c wr ∧ TMap wr (w.heap.size + 1) (l.take k)) (fun i _ => n - (intOf i).toNat)
  case atStart => exact ⟨0, Nat.zero_le _, rfl, (OverBook.start w st gd A n c).alloc _, [], by have := IMap.new (w.alloc (.cells #[.int .i64 st, .int .i64 gd, .slice A n c] 24)); rw [World.size_alloc] at this; exact this, fun s => rfl⟩
  case round =>
    obtain ⟨k, hk, rfl, hO, hT⟩ := hrel
    have hz : w.heap.size + 1 < wr.heap.size := hT.lt
    have HO := Lib.hid hO
    have HT := Lib.hid hT
    clear hO hT
    by_cases hlt : k < n
    · obtain ⟨o, rfl, hbz, s0, s1, s2, s3, s4, s5⟩ := (HL.out.old HO.out.low).atS (k := k) (by have := HA.out; omega)
      have hsl := HI.out.sales _ (List.getElem_mem (l := l) (n := k) (by have := HA.out; omega))
      have HP := Lib.hid (fun s => show turn (l.take (k + 1)) s = _ by rw [take_snoc l k (by have := HA.out; omega), turn_snoc])
      obtain ⟨t1, t2, t3⟩ := turn_bd (l := l.take k) (fun s hs => HI.out.sales s (List.mem_of_mem_take hs)) (l[k]'(by have := HA.out; omega)).st
      have t4 : ((l.take k).length : Int) ≤ 40 := by have := List.length_take_le k l; omega
      have t5 : (turn (l.take k) (l[k]'(by have := HA.out; omega)).st).hi ≤ 400000000 := by omega
      generalize hy : l[k]'(by have := HA.out; omega) = y at s0 s1 s2 s3 s4 s5 HP hsl t1 t2 t3 t5
      clear hy t3 t4
      obtain ⟨m1, m2⟩ := sale_bd hsl.gl0 (by have := hsl.gl1; have := hsl.gh1; omega) hsl.cl0 (by have := hsl.cl1; have := hsl.ch1; omega)
      obtain ⟨m3, m4⟩ := sale_bd (g := y.gh) (c := y.ch) (by have := hsl.gl1; have := hsl.gl0; omega) hsl.gh1 (by have := hsl.cl1; have := hsl.cl0; omega) hsl.ch1
      clear hsl
      have hlk := (HT.out.alloc (.cells #[.int .i64 y.st, .int .i64 y.gd, .int .i64 y.gl, .int .i64 y.gh, .int .i64 y.cl, .int .i64 y.ch] 59)).look y.st
      have hT2 := (HT.out.alloc (.cells #[.int .i64 y.st, .int .i64 y.gd, .int .i64 y.gl, .int .i64 y.gh, .int .i64 y.cl, .int .i64 y.ch] 59)).alloc (.cells #[.int .i64 (turn (l.take k) y.st).lo, .int .i64 (turn (l.take k) y.st).hi] 42)
      have hO2 := (HO.out.alloc (.cells #[.int .i64 y.st, .int .i64 y.gd, .int .i64 y.gl, .int .i64 y.gh, .int .i64 y.cl, .int .i64 y.ch] 59)).alloc (.cells #[.int .i64 (turn (l.take k) y.st).lo, .int .i64 (turn (l.take k) y.st).hi] 42)
      have HO2 := Lib.hid hO2
      obtain ⟨L, hL, hLv⟩ := hT2
      simp only [vSpan] at hlk
      generalize htl : (turn (l.take k) y.st).lo = tl at *
      generalize hth : (turn (l.take k) y.st).hi = th at *
      obtain ⟨w9, hrun, hL9, hg9⟩ := run_updateI Tryz.underlying94 Tryz.underlying3 hL y.st (.agg #[.int .i64 (tl + y.gl * y.cl / 1000), .int .i64 (th + y.gh * y.ch / 1000)])
      have HL9 := Lib.hid hL9
      have HG9 := Lib.hid hg9
      have HLv := Lib.hid hLv
      have HTL := Lib.hid htl
      have HTH := Lib.hid hth
      clear hO2 hL hL9 hg9 hLv htl hth
      go_wp2_with fail
      go_roundw
      case rel =>
        refine ⟨k + 1, by omega, by go_num, ⟨Below.stepG HG9.out HO2.out.low (Nat.le_refl _) (by omega), HO2.out.blk.grown HG9.out (fun e => by injection e; omega)⟩, _, HL9.out, fun s => ?_⟩
        rw [look_upd, HP.out]
        by_cases hs : s = y.st
        · subst hs
          simp [vSpan, HTL.out, HTH.out]
        · have h1 : ¬ y.st = s := fun e => hs e.symm
          simp only [beq_iff_eq, hs, if_false, h1]
          exact HLv.out s
      case measure => simp [intOf]; omega
    · have hkn : n ≤ k := by omega
      have HK := Lib.hid hkn
      go_wp2_with fail
      go_ret
      refine ⟨_, rfl, by omega, ?_, HO.out.low⟩
      have := HT.out
      rw [List.take_of_length_le (by have := HA.out; have := HK.out; omega)] at this
      exact this
end Go.Proofs.YtjmppionedcfeaaGreatDoor

namespace Go.Proofs.YtjmppionedcfeaaGreatDoor
open Go.RowKit

theorem info_span : (Tryz.prog.info? 42).map (fun i => (i.zero, i.size, i.bytes)) = some (some (.agg #[.int .i64 0, .int .i64 0]), 2, 16) := by kernel_rfl

/-- a list of spans and an error come back -/
def DuesPost (D : List Span) (err : Int) (w : World) (e : Ending) (w' : World) : Prop := ∃ A' c' b', e = .returned (.tuple #[.slice A' D.length c', .int .i64 err]) ∧ Sl encR 2 w' b' A' D.length D ∧ Below w.heap.size w w'

set_option maxRecDepth 100000 in
set_option maxHeartbeats 1000000 in
theorem duesTop_any (st gd : Int) (b n c b2 n2 c2 : Nat) (A A2 : Option Addr) (l : List Sale) (steps : List Step) (w : World) (hl : Sl encS 6 w b A n l) (hp : Sl encP 2 w b2 A2 n2 steps) (hn : n ≤ 1000000000000) (hn2 : n2 ≤ 1000000000000) :
    Calls Tryz.prog 16 #[.agg #[.int .i64 st, .int .i64 gd, .slice A n c], .slice A2 n2 c2] w (DuesPost (duesOut st gd l steps) (duesErr st gd l steps) w) := by
  have HL := Lib.hid hl
  have HP := Lib.hid hp
  have HO := Lib.hid (OverBook.start w st gd A n c)
  clear hl hp
  cases hc : (check st gd l != 0)
  · have hc0 : check st gd l = 0 := by simpa using hc
    have HC := Lib.hid hc0
    have HIN := Lib.hid (check_zero.1 hc0)
    clear hc0
    cases hs : (chkSteps steps != 0)
    · have hs0 : chkSteps steps = 0 := by simpa using hs
      have HS := Lib.hid hs0
      have HSI := Lib.hid (chkSteps_zero hs0)
      have HE := Lib.hid (show duesErr st gd l steps = 0 from by unfold duesErr; rw [if_neg (by simp [HC.out]), hs0])
      have HD := Lib.hid (show duesOut st gd l steps = duesAll st.toNat l steps from by unfold duesOut; rw [if_pos HE.out])
      clear hs0
      obtain ⟨i0, hi, iz0, iz1, iz2⟩ := info_parts info_span
      have hfs0 := field_span0
      have hfs1 := field_span1
      go_enter Tryz.func16, Tryz.ntmps16
      go_wp2_with fail
      refine (check_any st gd b n c A l _ (HL.out.alloc _) hn).mono ?_
      rintro e w1 ⟨rfl, hb1⟩
      have HO1 := Lib.hid (HO.out.below hb1)
      have HP1 := Lib.hid (HP.out.old HO1.out.low)
      clear hb1
      go_wp2_with fail
      refine (checkSteps_any b2 n2 c2 A2 steps _ HP1.out hn2).mono ?_
      rintro e w2 ⟨rfl, hb2⟩
      have HO2 := Lib.hid (HO1.out.below hb2)
      have HL2 := Lib.hid (HL.out.old HO2.out.low)
      have c0 := HO2.out.blk.cell 0
      have c1 := HO2.out.blk.cell 1
      have c2' := HO2.out.blk.cell 2
      clear hb2
      go_wp2_with fail
      refine (turnovers_any st gd b n c A l _ HL2.out HIN.out).mono ?_
      rintro e w3 ⟨m, rfl, hm, hT, hb3⟩
      have HO3 := Lib.hid (HO2.out.below hb3)
      have HT := Lib.hid hT
      have d0 := HO3.out.blk.cell 0
      have hst1 := HIN.out.st0
      have hst2 := HIN.out.st1
      have hmw : w.heap.size < m := Nat.lt_of_lt_of_le HO2.out.blk.lt hm
      have hmz : m < w3.heap.size := hT.lt
      clear hb3 hT c0 c1 c2'
      go_wp2_with fail
      go_loopw [9, 10, 25] (fun v _ i wr => ∃ (k c' : Nat) (A' : Option Addr), (k : Int) ≤ st ∧ i = .int .i64 k ∧ v = .slice A' k c' ∧ wr.ownsRow w3.heap.size 42 2 (.slice A' k c') k ((duesAll k l steps).flatMap encR) ∧ Below w3.heap.size w3 wr) (fun _ _ i _ => st.toNat - (intOf i).toNat)
      case atStart => exact ⟨0, 0, none, by omega, rfl, rfl, World.ownsRow_nil _ _ _ _, Below.refl _ _⟩
      case round =>
        obtain ⟨k, c', A', hk, rfl, rfl, hown, hB⟩ := hrel
        have HOWN := Lib.hid hown
        have HB := Lib.hid hB
        have hz : w3.heap.size ≤ wr.heap.size := hB.size
        clear hown hB
        by_cases hlt : (k : Int) < st
        · obtain ⟨t1, t2, t3⟩ := turn_bd HIN.out.sales (k : Int)
          have t4 : (l.length : Int) ≤ 40 := by have := HIN.out.len; omega
          have t5 : (turn l (k : Int)).hi ≤ 400000000 := by omega
          have HT1 := Lib.hid (HT.out.keep (HB.out.block m hmz)).drew
          have hP1 := Lib.hid ((HP.out.old HO3.out.low).old HB.out).drew
          have HBd := Lib.hid HB.out.drew
          have HOd := Lib.hid (ownsRow_drew HOWN.out)
          have hzd : wr.drew.heap.size = wr.heap.size := rfl
          have HZd := Lib.hid hzd
          clear hzd
          clear t3 t4
          go_wp2_with fail
          refine wp_region_PL [4, 10] (fun w' => (Instr.lookup 94 (.map (some m)) (.int .i64 (k : Int)) false).run Tryz.prog w' = .ok (.agg #[.int .i64 (turn l (k : Int)).lo, .int .i64 (turn l (k : Int)).hi]) w') rfl (by kernel_rfl) (HT1.out.look (k : Int)) (fun hF0 => ?_)
          (refine wpAnyP_takeL (i := 0) (v := ?_) rfl (by kernel_rfl) (by kernel_rfl) (by kernel_rfl) (fun _ _ _ h => h) (by rfl) ?_ ?_; rotate_left 1; focus (intro w; go_simp; try with_reducible rfl))
          try simp only [Act.put, List.setIfInBounds_toArray, List.set_cons_zero, List.set_cons_succ]
          (refine wpAnyP_takeL (i := 1) (v := ?_) rfl (by kernel_rfl) (by kernel_rfl) (by kernel_rfl) (fun _ _ _ h => h) (by rfl) ?_ ?_; rotate_left 1; focus (intro w; go_simp; try with_reducible rfl))
          try simp only [Act.put, List.setIfInBounds_toArray, List.set_cons_zero, List.set_cons_succ]
          (refine wpAnyP_takeL (i := 2) (v := ?_) rfl (by kernel_rfl) (by kernel_rfl) (by kernel_rfl) (fun _ _ _ h => h) (by rfl) ?_ ?_; rotate_left 1; focus (intro w; go_simp; try with_reducible rfl))
          try simp only [Act.put, List.setIfInBounds_toArray, List.set_cons_zero, List.set_cons_succ]
          (refine wpAnyP_takeL (i := 3) (v := ?_) rfl (by kernel_rfl) (by kernel_rfl) (by kernel_rfl) (fun _ _ _ h => h) (by rfl) ?_ ?_; rotate_left 1; focus (intro w; go_simp; try with_reducible rfl))
          try simp only [Act.put, List.setIfInBounds_toArray, List.set_cons_zero, List.set_cons_succ]
          (refine wpAnyP_loadL (i := 4) (v := ?_) rfl (by kernel_rfl) (by kernel_rfl) (by kernel_rfl) (by rfl) (fun _ _ _ h => h) hF0 (by rfl) ?_ ?_; rotate_left 1; focus (intro w hFw; (try dsimp only at hFw); go_split_ands; go_simp; try with_reducible rfl))
          try simp only [Act.put, List.setIfInBounds_toArray, List.set_cons_zero, List.set_cons_succ]
          (refine wpAnyP_takeL (i := 5) (v := ?_) rfl (by kernel_rfl) (by kernel_rfl) (by kernel_rfl) (fun _ _ _ h => h) (by rfl) ?_ ?_; rotate_left 1; focus (intro w; go_simp; try with_reducible rfl))
          try simp only [Act.put, List.setIfInBounds_toArray, List.set_cons_zero, List.set_cons_succ]
          (refine wpAnyP_takeL (i := 7) (v := ?_) rfl (by kernel_rfl) (by kernel_rfl) (by kernel_rfl) (fun _ _ _ h => h) (by rfl) ?_ ?_; rotate_left 1; focus (intro w; go_simp; try with_reducible rfl))
          try simp only [Act.put, List.setIfInBounds_toArray, List.set_cons_zero, List.set_cons_succ]
          (refine wpAnyP_takeL (i := 8) (v := ?_) rfl (by kernel_rfl) (by kernel_rfl) (by kernel_rfl) (fun _ _ _ h => h) (by rfl) ?_ ?_; rotate_left 1; focus (intro w; go_simp; try with_reducible rfl))
          try simp only [Act.put, List.setIfInBounds_toArray, List.set_cons_zero, List.set_cons_succ]
          (refine wpAnyP_takeL (i := 9) (v := ?_) rfl (by kernel_rfl) (by kernel_rfl) (by kernel_rfl) (fun _ _ _ h => h) (by rfl) ?_ ?_; rotate_left 1; focus (intro w; go_simp; try with_reducible rfl))
          try simp only [Act.put, List.setIfInBounds_toArray, List.set_cons_zero, List.set_cons_succ]
          (refine wpAnyP_loadL (i := 10) (v := ?_) rfl (by kernel_rfl) (by kernel_rfl) (by kernel_rfl) (by rfl) (fun _ _ _ h => h) hF0 (by rfl) ?_ ?_; rotate_left 1; focus (intro w hFw; (try dsimp only at hFw); go_split_ands; go_simp; try with_reducible rfl))
          try simp only [Act.put, List.setIfInBounds_toArray, List.set_cons_zero, List.set_cons_succ]
          (refine wpAnyP_takeL (i := 11) (v := ?_) rfl (by kernel_rfl) (by kernel_rfl) (by kernel_rfl) (fun _ _ _ h => h) (by rfl) ?_ ?_; rotate_left 1; focus (intro w; go_simp; try with_reducible rfl))
          try simp only [Act.put, List.setIfInBounds_toArray, List.set_cons_zero, List.set_cons_succ]
          refine wpAnyP_step (i := 6) rfl (by kernel_rfl) (by rfl) (fun K hK => ?_)
          go_simp
          (refine (dues_any b2 n2 c2 A2 steps _ _ hP1.out HSI.out t1 (by omega)).mono ?_; rintro e w4 ⟨rfl, hb4⟩; have hz4 : wr.heap.size ≤ w4.heap.size := hb4.size; have hT4 := Lib.hid (HT1.out.keep (hb4.block m (by have := HZd.out; omega))); have hP4 := Lib.hid (hP1.out.old hb4); have HB4 := Lib.hid (Below.step hb4 HBd.out (Nat.le_refl _)); have HW4 := Lib.hid (ownsRow_below HOd.out hb4 (Nat.le_refl _)); clear hb4)
          (refine hK _ _ (hT4.out.look (k : Int)) (fun hF1 => ?_); clear hK K hF0)
          try simp only [Act.put, List.setIfInBounds_toArray, List.set_cons_zero, List.set_cons_succ]
          refine wpAnyP_step (i := 12) rfl (by kernel_rfl) (by rfl) (fun K hK => ?_)
          go_simp
          (refine (dues_any b2 n2 c2 A2 steps _ _ hP4.out HSI.out (by omega) (by omega)).mono ?_; rintro e w5 ⟨rfl, hb5⟩; have hz5 := hb5.size; have HB5 := Lib.hid (Below.step hb5 HB4.out (Nat.le_refl _)); have HW5 := Lib.hid (ownsRow_below HW4.out hb5 (Nat.le_refl _)); have hT5 := Lib.hid (hT4.out.keep (hb5.block m (by omega))); clear hb5)
          (refine hK _ _ (hT5.out.look (k : Int)) (fun hF2 => ?_); clear hK K hF1)
          try simp only [Act.put, List.setIfInBounds_toArray, List.set_cons_zero, List.set_cons_succ]
          (refine wpAnyP_takeL (i := 13) (v := ?_) rfl (by kernel_rfl) (by kernel_rfl) (by kernel_rfl) (fun _ _ _ h => h) (by rfl) ?_ ?_; rotate_left 1; focus (intro w; go_simp; try with_reducible rfl))
          try simp only [Act.put, List.setIfInBounds_toArray, List.set_cons_zero, List.set_cons_succ]
          refine wpAnyP_step (i := 14) rfl (by kernel_rfl) (by rfl) (fun K hK => ?_)
          go_simp
          (refine hK _ _ ((hT5.out.alloc _).look (k : Int)) (fun hF3 => ?_); clear hK K hF2)
          try simp only [Act.put, List.setIfInBounds_toArray, List.set_cons_zero, List.set_cons_succ]
          refine wpAnyP_step (i := 15) rfl (by kernel_rfl) (by rfl) (fun K hK => ?_)
          (refine wp_append_lies _ _ _ _ rfl w3.heap.size 42 i0 _ 2 16 Tryz.underlying46 hi iz0 iz1 iz2 rfl (by omega) _ k _ (by rfl) (HW5.out.alloc _) ⟨w5.heap.size, 0, none⟩ 1 1 (encR (dueSpan steps (turn l (k : Int)))) (by rfl) (by rfl) (World.news_of_block (heap_alloc_new w5 _)) (oneR _) (by omega) (by unfold maxLen; omega) (by omega) (by simp; omega) (w5.heap.size + 1) (by simp) ?_; intro g' cap w6 hown6 hgrow hat hlt6)
          (refine hK _ _ (((hT5.out.alloc _).keep (own_keeps (HW5.out.alloc _) hgrow hmz (by simp; omega))).look (k : Int)) (fun hF4 => ?_); clear hK K hF3)
          try simp only [Act.put, List.setIfInBounds_toArray, List.set_cons_zero, List.set_cons_succ]
          (refine wpAnyP_takeL (i := 16) (v := ?_) rfl (by kernel_rfl) (by kernel_rfl) (by kernel_rfl) (fun _ _ _ h => h) (by rfl) ?_ ?_; rotate_left 1; focus (intro w; go_simp; try with_reducible rfl))
          try simp only [Act.put, List.setIfInBounds_toArray, List.set_cons_zero, List.set_cons_succ]
          refine wpAnyP_done (by kernel_rfl) ?_ _
          have HW6 := Lib.hid hown6
          have HB6 := Lib.hid (below_own (HW5.out.alloc _) hgrow (HB5.out.alloc (by omega) _) (Nat.le_refl _) (Nat.le_refl _))
          clear hown6 hgrow hat hlt6
          go_wp2_with fail
          go_roundw
          case rel => exact ⟨k + 1, cap, _, by omega, by go_num, rfl, by rw [duesAll_succ]; simpa using HW6.out, HB6.out⟩
          case measure => simp [intOf]; omega
        · have hkn : st ≤ (k : Int) := by omega
          have HK := Lib.hid (show st.toNat = k by omega)
          go_wp2_with fail
          go_ret2
          obtain ⟨b', hb', hsl⟩ := Sl.of_own encR_len (duesAll_len k l steps).symm HOWN.out
          refine ⟨A', c', b', ?_, ?_, Below.step HB.out HO3.out.low (Nat.le_refl _)⟩
          · rw [HE.out, HD.out, HK.out, duesAll_len]
            rfl
          · rw [HD.out, HK.out, duesAll_len]
            exact hsl
    · have hs0 : chkSteps steps ≠ 0 := by simpa using hs
      have HE := Lib.hid (show duesErr st gd l steps = chkSteps steps from by unfold duesErr; rw [if_neg (by simp [HC.out])])
      have HD := Lib.hid (show duesOut st gd l steps = [] from by unfold duesOut; rw [if_neg (by rw [HE.out]; exact hs0)])
      clear hs0
      go_enter Tryz.func16, Tryz.ntmps16
      go_wp2_with fail
      refine (check_any st gd b n c A l _ (HL.out.alloc _) hn).mono ?_
      rintro e w1 ⟨rfl, hb1⟩
      have HO1 := Lib.hid (HO.out.below hb1)
      have HP1 := Lib.hid (HP.out.old HO1.out.low)
      clear hb1
      go_wp2_with fail
      refine (checkSteps_any b2 n2 c2 A2 steps _ HP1.out hn2).mono ?_
      rintro e w2 ⟨rfl, hb2⟩
      have HO2 := Lib.hid (HO1.out.below hb2)
      clear hb2
      go_wp2_with fail
      go_ret2
      exact ⟨none, 0, 0, by rw [HE.out, HD.out]; rfl, by rw [HD.out]; exact Sl.nil _ _ _, HO2.out.low⟩
  · have hc0 : check st gd l ≠ 0 := by simpa using hc
    have HE := Lib.hid (show duesErr st gd l steps = check st gd l from by unfold duesErr; rw [if_pos hc0])
    have HD := Lib.hid (show duesOut st gd l steps = [] from by unfold duesOut; rw [if_neg (by rw [HE.out]; exact hc0)])
    clear hc0
    go_enter Tryz.func16, Tryz.ntmps16
    go_wp2_with fail
    refine (check_any st gd b n c A l _ (HL.out.alloc _) hn).mono ?_
    rintro e w1 ⟨rfl, hb1⟩
    have HO1 := Lib.hid (HO.out.below hb1)
    clear hb1
    go_wp2_with fail
    go_ret2
    exact ⟨none, 0, 0, by rw [HE.out, HD.out]; rfl, by rw [HD.out]; exact Sl.nil _ _ _, HO1.out.low⟩
end Go.Proofs.YtjmppionedcfeaaGreatDoor
