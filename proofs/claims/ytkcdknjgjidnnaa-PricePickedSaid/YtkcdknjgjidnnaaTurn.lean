/-
  Turnovers of all stalls, and of one.
-/
import Derived.Test.YtkcdknjgjidnnaaChk
import Derived.Test.YtkcdknjgjidnnaaMap
set_option linter.unusedVariables false
set_option linter.unusedSimpArgs false
namespace Go.Proofs.Ytkcdknjgjidnnaa
open Go.RowKit

def zSpan : Value := .agg #[.int .i64 0, .int .i64 0]
theorem zeroSpan (w : World) : (zeroValue 26).run Try.prog w = .ok zSpan w := by kernel_rfl
theorem field_span0 (x y : Int) (w : World) : (Instr.field 26 (.agg #[.int .i64 x, .int .i64 y]) 0).run Try.prog w = .ok (.int .i64 x) w := by kernel_rfl
theorem field_span1 (x y : Int) (w : World) : (Instr.field 26 (.agg #[.int .i64 x, .int .i64 y]) 1).run Try.prog w = .ok (.int .i64 y) w := by kernel_rfl
def vSpan (s : Span) : Value := .agg #[.int .i64 s.lo, .int .i64 s.hi]

/-- a map that holds turnovers -/
def TMap (w : World) (b : Nat) (l : List Sale) : Prop := ∃ L, IMap w b L ∧ ∀ s, (look s L).getD zSpan = vSpan (turn l s)
theorem TMap.lt {w : World} {b : Nat} {l : List Sale} (h : TMap w b l) : b < w.heap.size := by obtain ⟨L, h, _⟩ := h; exact h.lt
theorem TMap.keep {w w' : World} {b : Nat} {l : List Sale} (h : TMap w b l) (hb : w'.heap[b]? = w.heap[b]?) : TMap w' b l := by obtain ⟨L, h, h2⟩ := h; exact ⟨L, h.keep hb, h2⟩
theorem TMap.alloc {w : World} {b : Nat} {l : List Sale} (h : TMap w b l) (o : Obj) : TMap (w.alloc o) b l := h.keep (Below.heap_alloc w o b h.lt)
theorem TMap.drew {w : World} {b : Nat} {l : List Sale} (h : TMap w b l) : TMap w.drew b l := h
theorem TMap.look {w : World} {b : Nat} {l : List Sale} (h : TMap w b l) (s : Int) : (Instr.lookup 113 (.map (some b)) (.int .i64 s) false).run Try.prog w = .ok (vSpan (turn l s)) w := by
  obtain ⟨L, h, h2⟩ := h
  rw [run_lookupI Try.underlying113 Try.underlying3 zeroSpan h s, h2]

set_option maxRecDepth 100000 in
set_option maxHeartbeats 1000000 in
theorem turnovers_any (st gd : Int) (b n c : Nat) (A : Option Addr) (l : List Sale) (w : World) (hl : Sl encS 6 w b A n l) (hin : BookIn st gd l) :
    Calls Try.prog 72 #[.agg #[.int .i64 st, .int .i64 gd, .slice A n c]] w fun e w' => ∃ m, e = .returned (.map (some m)) ∧ w.heap.size ≤ m ∧ TMap w' m l ∧ Below w.heap.size w w' := by
  have HA := Lib.hid hl.len
  have hn40 : n ≤ 40 := by have := hin.len; have := hl.len; omega
  have HL := Lib.hid hl
  have HI := Lib.hid hin
  have hmm := @run_makeMap Try.prog
  clear hl hin
  go_enter Try.func72, Try.ntmps72
  go_wp2_with fail
  go_loopw [11] (fun i wr => ∃ k : Nat, k ≤ n ∧ i = .int .i64 k ∧ OverBook w st gd A n c wr ∧ TMap wr (w.heap.size + 1) (l.take k)) (fun i _ => n - (intOf i).toNat)
  case atStart => exact ⟨0, Nat.zero_le _, rfl, (OverBook.start w st gd A n c).alloc _, [], by have := IMap.new (w.alloc (.cells #[.int .i64 st, .int .i64 gd, .slice A n c] 24)); rw [World.size_alloc] at this; exact this, fun s => rfl⟩
  case round =>
    obtain ⟨k, hk, rfl, hO, hT⟩ := hrel
    have hz : w.heap.size + 1 < wr.heap.size := hT.lt
    have HO := Lib.hid hO
    have HT := Lib.hid hT
    clear hO hT
    by_cases hlt : k < n
    · obtain ⟨o, rfl, hbz, s0, s1, s2, s3, s4, s5⟩ := (HL.out.old HO.out.low).atS (k := k) (by have := HA.out; omega)
      have hsl := HI.out.sales _ (List.getElem_mem (l := l) (n := k) (by have := HA.out; omega))
      have HP := Lib.hid (fun s => show turn (l.take (k + 1)) s = _ by rw [take_snoc l k (by have := HA.out; omega), turn_snoc])
      obtain ⟨t1, t2, t3⟩ := turn_bd (l := l.take k) (fun s hs => HI.out.sales s (List.mem_of_mem_take hs)) (l[k]'(by have := HA.out; omega)).st
      have t4 : ((l.take k).length : Int) ≤ 40 := by have := List.length_take_le k l; omega
      have t5 : (turn (l.take k) (l[k]'(by have := HA.out; omega)).st).hi ≤ 400000000 := by omega
      generalize hy : l[k]'(by have := HA.out; omega) = y at s0 s1 s2 s3 s4 s5 HP hsl t1 t2 t3 t5
      clear hy t3 t4
      obtain ⟨m1, m2⟩ := sale_bd hsl.gl0 (by have := hsl.gl1; have := hsl.gh1; omega) hsl.cl0 (by have := hsl.cl1; have := hsl.ch1; omega)
      obtain ⟨m3, m4⟩ := sale_bd (g := y.gh) (c := y.ch) (by have := hsl.gl1; have := hsl.gl0; omega) hsl.gh1 (by have := hsl.cl1; have := hsl.cl0; omega) hsl.ch1
      clear hsl
      have hlk := (HT.out.alloc (.cells #[.int .i64 y.st, .int .i64 y.gd, .int .i64 y.gl, .int .i64 y.gh, .int .i64 y.cl, .int .i64 y.ch] 28)).look y.st
      have hT2 := (HT.out.alloc (.cells #[.int .i64 y.st, .int .i64 y.gd, .int .i64 y.gl, .int .i64 y.gh, .int .i64 y.cl, .int .i64 y.ch] 28)).alloc (.cells #[.int .i64 (turn (l.take k) y.st).lo, .int .i64 (turn (l.take k) y.st).hi] 26)
      have hO2 := (HO.out.alloc (.cells #[.int .i64 y.st, .int .i64 y.gd, .int .i64 y.gl, .int .i64 y.gh, .int .i64 y.cl, .int .i64 y.ch] 28)).alloc (.cells #[.int .i64 (turn (l.take k) y.st).lo, .int .i64 (turn (l.take k) y.st).hi] 26)
      have HO2 := Lib.hid hO2
      obtain ⟨L, hL, hLv⟩ := hT2
      simp only [vSpan] at hlk
      generalize htl : (turn (l.take k) y.st).lo = tl at *
      generalize hth : (turn (l.take k) y.st).hi = th at *
      obtain ⟨w9, hrun, hL9, hg9⟩ := run_updateI Try.underlying113 Try.underlying3 hL y.st (.agg #[.int .i64 (tl + y.gl * y.cl / 1000), .int .i64 (th + y.gh * y.ch / 1000)])
      have HL9 := Lib.hid hL9
      have HG9 := Lib.hid hg9
      have HLv := Lib.hid hLv
      have HTL := Lib.hid htl
      have HTH := Lib.hid hth
      clear hO2 hL hL9 hg9 hLv htl hth
      go_wp2_with fail
      go_roundw
      case rel =>
        refine ⟨k + 1, by omega, by go_num, ⟨Below.stepG HG9.out HO2.out.low (Nat.le_refl _) (by omega), HO2.out.blk.grown HG9.out (fun e => by injection e; omega)⟩, _, HL9.out, fun s => ?_⟩
        rw [look_upd, HP.out]
        by_cases hs : s = y.st
        · subst hs
          simp [vSpan, HTL.out, HTH.out]
        · have h1 : ¬ y.st = s := fun e => hs e.symm
          simp only [beq_iff_eq, hs, if_false, h1]
          exact HLv.out s
      case measure => simp [intOf]; omega
    · have hkn : n ≤ k := by omega
      have HK := Lib.hid hkn
      go_wp2_with fail
      go_ret
      refine ⟨_, rfl, by omega, ?_, HO.out.low⟩
      have := HT.out
      rw [List.take_of_length_le (by have := HA.out; have := HK.out; omega)] at this
      exact this
end Go.Proofs.Ytkcdknjgjidnnaa
