/-
  cold: how cellars and lots lie in memory; the small functions: in, verdict, cold, put, melted, loss, joined.
-/
import Derived.Test.YtmoolcpogilgkaaColdLaw
import Derived.Test.YtmoolcpogilgkaaEnc
import Derived.Test.YtmoolcpogilgkaaTrArr
import Derived.Deep.QuietTactic
import Derived.Deep.CutRange
import Derived.BigQuiet
import Derived.WalkMore
set_option linter.unusedVariables false
set_option linter.unusedSimpArgs false
namespace Go.Proofs.Ytmoolcpogilgkaa
open Go.RowKit

def encBx (b : BoxT) : List Value := [.int .i64 b.room, .int .i64 b.ilo, .int .i64 b.ihi, .int .i64 b.mlo, .int .i64 b.mhi, .int .i64 b.clo, .int .i64 b.chi, .int .i64 b.wlo, .int .i64 b.whi]
theorem encBx_len (x : BoxT) : (encBx x).length = 9 := rfl
def encFl (f : FilT) : List Value := [.int .i64 f.box, .int .i64 f.hour, .int .i64 f.grams]
theorem encFl_len (x : FilT) : (encFl x).length = 3 := rfl
def encRt (r : RateT) : List Value := [.int .i64 r.above, .int .i64 r.loss]
theorem encRt_len (x : RateT) : (encRt x).length = 2 := rfl
def encSt (s : StayT) : List Value := [.int .i64 s.box, .int .i64 s.fr, .int .i64 s.to]
theorem encSt_len (x : StayT) : (encSt x).length = 3 := rfl
theorem Sl.atBx {w : World} {b n : Nat} {A : Option Addr} {l : List BoxT} (h : Sl encBx 9 w b A n l) {k : Nat} (hk : k < l.length) :
    ∃ o, A = some ⟨b, o, none⟩ ∧ b < w.heap.size ∧ ∀ j v, (encBx l[k])[j]? = some v → w.cell? ⟨b, o + k * 9 + j, none⟩ = some v := by
  obtain ⟨o, h1, h2, h3⟩ := h.at_ hk
  exact ⟨o, h1, h2, fun j v hv => h3 j v hv⟩
theorem Sl.atFl {w : World} {b n : Nat} {A : Option Addr} {l : List FilT} (h : Sl encFl 3 w b A n l) {k : Nat} (hk : k < l.length) :
    ∃ o, A = some ⟨b, o, none⟩ ∧ b < w.heap.size ∧ w.cell? ⟨b, o + k * 3, none⟩ = some (.int .i64 l[k].box) ∧ w.cell? ⟨b, o + k * 3 + 1, none⟩ = some (.int .i64 l[k].hour) ∧ w.cell? ⟨b, o + k * 3 + 2, none⟩ = some (.int .i64 l[k].grams) := by
  obtain ⟨o, h1, h2, h3⟩ := h.at_ hk
  exact ⟨o, h1, h2, h3 0 _ rfl, h3 1 _ rfl, h3 2 _ rfl⟩
theorem Sl.atRt {w : World} {b n : Nat} {A : Option Addr} {l : List RateT} (h : Sl encRt 2 w b A n l) {k : Nat} (hk : k < l.length) :
    ∃ o, A = some ⟨b, o, none⟩ ∧ b < w.heap.size ∧ w.cell? ⟨b, o + k * 2, none⟩ = some (.int .i64 l[k].above) ∧ w.cell? ⟨b, o + k * 2 + 1, none⟩ = some (.int .i64 l[k].loss) := by
  obtain ⟨o, h1, h2, h3⟩ := h.at_ hk
  exact ⟨o, h1, h2, h3 0 _ rfl, h3 1 _ rfl⟩
theorem Sl.atSt {w : World} {b n : Nat} {A : Option Addr} {l : List StayT} (h : Sl encSt 3 w b A n l) {k : Nat} (hk : k < l.length) :
    ∃ o, A = some ⟨b, o, none⟩ ∧ b < w.heap.size ∧ w.cell? ⟨b, o + k * 3, none⟩ = some (.int .i64 l[k].box) ∧ w.cell? ⟨b, o + k * 3 + 1, none⟩ = some (.int .i64 l[k].fr) ∧ w.cell? ⟨b, o + k * 3 + 2, none⟩ = some (.int .i64 l[k].to) := by
  obtain ⟨o, h1, h2, h3⟩ := h.at_ hk
  exact ⟨o, h1, h2, h3 0 _ rfl, h3 1 _ rfl, h3 2 _ rfl⟩

/-- where the parts of a cellar lie -/
structure CelP where
  Ab : Option Addr
  nb : Nat
  cb : Nat
  bb : Nat
  Af : Option Addr
  nf : Nat
  cf : Nat
  bf : Nat
  Ar : Option Addr
  nr : Nat
  cr : Nat
  br : Nat
def celA (p : CelP) (c : CelT) : Array Value := #[.int .i64 c.hlo, .int .i64 c.hhi, .slice p.Ab p.nb p.cb, .slice p.Af p.nf p.cf, .slice p.Ar p.nr p.cr]
structure CelM (w : World) (p : CelP) (c : CelT) : Prop where
  b : Sl encBx 9 w p.bb p.Ab p.nb c.boxes
  f : Sl encFl 3 w p.bf p.Af p.nf c.fils
  r : Sl encRt 2 w p.br p.Ar p.nr c.rates
theorem CelM.old {w w' : World} {p : CelP} {c : CelT} (h : CelM w p c) (hb : Below w.heap.size w w') : CelM w' p c := ⟨h.b.old hb, h.f.old hb, h.r.old hb⟩
structure LotP where
  As : Option Addr
  ns : Nat
  cs : Nat
  bs : Nat
def lotA (p : LotP) (l : LotT) : Array Value := #[.int .i64 l.born, .int .i64 l.keeps, .slice p.As p.ns p.cs]
def LotM (w : World) (p : LotP) (l : LotT) : Prop := Sl encSt 3 w p.bs p.As p.ns l.stays

set_option maxHeartbeats 400000 in
theorem cin_any (n lo hi : Int) (w : World) : Calls Try.prog 31 #[.int .i64 n, .int .i64 lo, .int .i64 hi] w fun e w' => e = .returned (.bool (inB n lo hi)) ∧ w = w' := by
  go_enter Try.func31, Try.ntmps31
  go_wp2
  all_goals (go_ret; refine ⟨?_, rfl⟩; simp [inB, *]; try omega)

theorem verdict_any (a b : Bool) (w : World) : Calls Try.prog 52 #[.bool a, .bool b] w fun e w' => e = .returned (.int .i64 (verd a b)) ∧ Below w.heap.size w w' := by
  cases a <;> cases b
  all_goals
    go_enter Try.func52, Try.ntmps52
    go_wp2_with fail
    go_ret
    exact ⟨rfl, Below.refl _ _⟩

set_option maxHeartbeats 400000 in
theorem cold_any (p : Int × Int) (w : World) : Calls Try.prog 46 #[.agg #[.int .i64 p.1, .int .i64 p.2]] w fun e w' => e = .returned (.int .i64 (coldV p)) ∧ Below w.heap.size w w' := by
  have hB := Blk.new w 109 #[.int .i64 p.1, .int .i64 p.2]
  have hb0 : Below w.heap.size w (w.alloc (.cells #[.int .i64 p.1, .int .i64 p.2] 109)) := (Below.refl _ w).alloc (Nat.le_refl _) _
  have HB0 := Lib.hid hb0
  have c0 := hB.cell 0
  have c1 := hB.cell 1
  clear hb0
  go_enter Try.func46, Try.ntmps46
  go_wp2_with fail
  refine (verdict_any _ _ _).mono ?_
  rintro e w1 ⟨rfl, hb1⟩
  have HB1 := Lib.hid (HB0.out.trans (hb1.mono HB0.out.size))
  clear hb1
  go_wp2_with fail
  go_ret
  exact ⟨rfl, HB1.out⟩

def stoA (b : BoxT) (p : Int × Int) : Array Value := #[.int .i64 b.room, .int .i64 b.ilo, .int .i64 b.ihi, .int .i64 b.mlo, .int .i64 b.mhi, .int .i64 b.clo, .int .i64 b.chi, .int .i64 b.wlo, .int .i64 b.whi, .int .i64 p.1, .int .i64 p.2]
def iceV (p : Int × Int) : Value := .agg #[.int .i64 p.1, .int .i64 p.2]
theorem info_ice : (Try.prog.info? 109).map (·.size) = some 2 := by kernel_rfl

set_option maxRecDepth 100000 in
set_option maxHeartbeats 1000000 in
theorem melted_any (b : BoxT) (p : Int × Int) (w : World) (h1 : 0 ≤ p.1 ∧ p.1 ≤ 1000000) (h2 : 0 ≤ p.2 ∧ p.2 ≤ 1000000) (hm : 0 ≤ b.mlo ∧ b.mlo ≤ 1000000 ∧ 0 ≤ b.mhi ∧ b.mhi ≤ 1000000) :
    Calls Try.prog 71 #[.agg (stoA b p)] w fun e w' => e = .returned (iceV (meltI b p)) ∧ Below w.heap.size w w' := by
  have hB := (Blk.new w 145 (stoA b p)).alloc (.cells #[.int .i64 0, .int .i64 0] 109)
  have hR := Blk.new (w.alloc (.cells (stoA b p) 145)) 109 #[.int .i64 0, .int .i64 0]
  simp only [World.size_alloc] at hR
  have hb0 : Below w.heap.size w ((w.alloc (.cells (stoA b p) 145)).alloc (.cells #[.int .i64 0, .int .i64 0] 109)) := ((Below.refl _ w).alloc (Nat.le_refl _) _).alloc (by simp) _
  have HB0 := Lib.hid hb0
  have c3 : ((w.alloc (.cells (stoA b p) 145)).alloc (.cells #[.int .i64 0, .int .i64 0] 109)).cell? ⟨w.heap.size, 3, none⟩ = some (.int .i64 b.mlo) := hB.cell 3
  have c4 : ((w.alloc (.cells (stoA b p) 145)).alloc (.cells #[.int .i64 0, .int .i64 0] 109)).cell? ⟨w.heap.size, 4, none⟩ = some (.int .i64 b.mhi) := hB.cell 4
  have c9 : ((w.alloc (.cells (stoA b p) 145)).alloc (.cells #[.int .i64 0, .int .i64 0] 109)).cell? ⟨w.heap.size, 9, none⟩ = some (.int .i64 p.1) := hB.cell 9
  have c10 : ((w.alloc (.cells (stoA b p) 145)).alloc (.cells #[.int .i64 0, .int .i64 0] 109)).cell? ⟨w.heap.size, 10, none⟩ = some (.int .i64 p.2) := hB.cell 10
  have r0 := hR.cell 0
  have r1 := hR.cell 1
  have f0 := hR.frozen 0
  have f1 := hR.frozen 1
  have hR2 := (hR.set_ 0 (.int .i64 (max 0 (p.1 - b.mhi)))).set_ 1 (.int .i64 (max 0 (p.2 - b.mlo)))
  have q0 := hR2.cell 0
  have q1 := hR2.cell 1
  obtain ⟨a1, a2⟩ := h1
  obtain ⟨a3, a4⟩ := h2
  obtain ⟨a5, a6, a7, a8⟩ := hm
  clear hb0 hB hR hR2
  go_enter Try.func71, Try.ntmps71
  go_wp2_with fail
  refine bodyPost_ret (v := iceV (meltI b p)) (by simp [results, Try.results71, go_sem, q0, q1, iceV, meltI]; try omega) rfl ⟨rfl, ?_⟩
  exact ((Below.refl _ w).alloc (Nat.le_refl _) _).alloc (by simp) _

set_option maxRecDepth 100000 in
set_option maxHeartbeats 1000000 in
theorem loss_any (p : CelP) (c : CelT) (v : Int) (w : World) (hM : CelM w p c) (hn : p.nr ≤ 1000000) : Calls Try.prog 49 #[.agg (celA p c), .int .i64 v] w fun e w' => e = .returned (.int .i64 (lossT c.rates v)) ∧ Below w.heap.size w w' := by
  have hB := Blk.new w 37 (celA p c)
  have hb0 : Below w.heap.size w (w.alloc (.cells (celA p c) 37)) := (Below.refl _ w).alloc (Nat.le_refl _) _
  have HB0 := Lib.hid hb0
  have HR := Lib.hid hM.r
  have HL := Lib.hid hM.r.len
  have c4 : (w.alloc (.cells (celA p c) 37)).cell? ⟨w.heap.size, 4, none⟩ = some (.slice p.Ar p.nr p.cr) := hB.cell 4
  clear hb0 hM hB
  go_enter Try.func49, Try.ntmps49
  go_wp2_with fail
  go_step3
  go_wp2_with fail
  go_step3
  go_wp2_with fail
  go_loopw [5, 11] (fun n i wr => ∃ (k : Nat) (x : Int), k ≤ p.nr ∧ i = .int .i64 k ∧ n = .int .i64 x ∧ lossF v (c.rates.drop k) x = lossT c.rates v ∧ Below w.heap.size w wr) (fun _ i _ => p.nr - (intOf i).toNat)
  case atStart => exact ⟨0, 0, Nat.zero_le _, rfl, rfl, rfl, HB0.out⟩
  case round =>
    obtain ⟨k, x, hk, rfl, rfl, hx, hB⟩ := hrel
    have HX := Lib.hid hx
    have HB := Lib.hid hB
    clear hx hB c4
    by_cases hlt : k < p.nr
    · have hkl : k < c.rates.length := by have := HL.out; omega
      obtain ⟨o, ho, hbz, s0, s1⟩ := (HR.out.old HB.out).atRt hkl
      have HD := Lib.hid (show lossF v (c.rates.drop k) x = if v < c.rates[k].above then x else lossF v (c.rates.drop (k + 1)) c.rates[k].loss by rw [List.drop_eq_getElem_cons hkl, lossF])
      generalize c.rates[k] = r at s0 s1 HD
      have HAL := Lib.hid (HB.out.alloc HB.out.size (.cells #[.int .i64 r.above, .int .i64 r.loss] 78))
      by_cases hv : v < r.above
      · have hd : decide (v < r.above) = true := decide_eq_true hv
        have HE := Lib.hid (show x = lossT c.rates v by rw [← HX.out, HD.out, if_pos hv])
        clear hv
        rw [ho]
        go_wp2_with fail
        try rw [Exit.noGoto_ret]
        go_ret
        exact ⟨by rw [HE.out]; rfl, HAL.out⟩
      · have hd : decide (v < r.above) = false := decide_eq_false hv
        have HE := Lib.hid (show lossF v (c.rates.drop (k + 1)) r.loss = lossT c.rates v by rw [← HX.out, HD.out, if_neg hv])
        clear hv
        rw [ho]
        go_wp2_with fail
        go_roundw
        case rel => exact ⟨k + 1, r.loss, by omega, by go_num, rfl, HE.out, HAL.out⟩
        case measure => simp [intOf]; omega
    · have HE := Lib.hid (show x = lossT c.rates v by have h9 := HX.out; rw [List.drop_of_length_le (by have := HL.out; omega)] at h9; exact h9)
      go_wp2_with fail
      try rw [Exit.noGoto_ret]
      go_ret
      exact ⟨by rw [HE.out]; rfl, HB.out⟩

theorem putI_0 (room g : Int) (p : Int × Int) : putI room g p = (min room (p.1 + g), min room (p.2 + g)) := rfl
set_option maxRecDepth 100000 in
set_option maxHeartbeats 1000000 in
theorem put_any (b : BoxT) (p : Int × Int) (g : Int) (w : World) (h1 : 0 ≤ p.1 ∧ p.1 ≤ 1000000) (h2 : 0 ≤ p.2 ∧ p.2 ≤ 1000000) (hr : 0 ≤ b.room ∧ b.room ≤ 1000000) (hg : 0 ≤ g ∧ g ≤ 1000000) :
    Calls Try.prog 70 #[.agg (stoA b p), .int .i64 g] w fun e w' => e = .returned (iceV (putI b.room g p)) ∧ Below w.heap.size w w' := by
  obtain ⟨a1, a2⟩ := h1
  obtain ⟨a3, a4⟩ := h2
  obtain ⟨a5, a6⟩ := hr
  obtain ⟨a7, a8⟩ := hg
  have hB := (Blk.new w 145 (stoA b p)).alloc (.cells #[.int .i64 0, .int .i64 0] 109)
  have hR := Blk.new (w.alloc (.cells (stoA b p) 145)) 109 #[.int .i64 0, .int .i64 0]
  simp only [World.size_alloc] at hR
  have hb0 : Below w.heap.size w ((w.alloc (.cells (stoA b p) 145)).alloc (.cells #[.int .i64 0, .int .i64 0] 109)) := ((Below.refl _ w).alloc (Nat.le_refl _) _).alloc (by simp) _
  have HB0 := Lib.hid hb0
  have HB := Lib.hid hB
  have HR := Lib.hid hR
  clear hb0 hB hR
  go_enter Try.func70, Try.ntmps70
  go_wp2_with fail
  go_loopw [6] (fun i wr => ∃ (k : Nat) (q : Int × Int), k ≤ 2 ∧ i = .int .i64 k ∧ (k = 0 → q = p) ∧ (k = 1 → q = (min b.room (p.1 + g), p.2)) ∧ (k = 2 → q = putI b.room g p) ∧ Blk wr w.heap.size 145 (stoA b q) ∧ Blk wr (w.heap.size + 1) 109 #[.int .i64 0, .int .i64 0] ∧ Below w.heap.size w wr) (fun i _ => 2 - (intOf i).toNat)
  case atStart => exact ⟨0, p, by omega, rfl, fun _ => rfl, fun h => by omega, fun h => by omega, HB.out, HR.out, HB0.out⟩
  case round =>
    obtain ⟨k, q, hk, rfl, hq0, hq1, hq2, hB, hR, hb⟩ := hrel
    clear HB HR HB0
    have HR := Lib.hid hR
    have HB := Lib.hid hB
    have HBE := Lib.hid hb
    have fx := fun j => hB.frozen j
    have x0 : wr.cell? ⟨w.heap.size, 0, none⟩ = some (.int .i64 b.room) := hB.cell 0
    have x9 : wr.cell? ⟨w.heap.size, 9, none⟩ = some (.int .i64 q.1) := hB.cell 9
    have x10 : wr.cell? ⟨w.heap.size, 10, none⟩ = some (.int .i64 q.2) := hB.cell 10
    have HX := Lib.hid (And.intro x0 (And.intro x9 x10))
    clear hR hB hb x0 x9 x10
    have hk3 : k = 0 ∨ k = 1 ∨ k = 2 := by omega
    rcases hk3 with rfl | rfl | rfl
    · obtain rfl := hq0 rfl
      clear hq0 hq1 hq2
      have f9 := fx 9
      clear fx
      have HN := Lib.hid (show Blk (wr.setCell ⟨w.heap.size, 9, none⟩ (.int .i64 (min b.room (q.1 + g)))) w.heap.size 145 (stoA b (min b.room (q.1 + g), q.2)) from HB.out.set_ 9 (.int .i64 (min b.room (q.1 + g))))
      have HN2 := Lib.hid (HR.out.far (p := ⟨w.heap.size, 9, none⟩) (by show w.heap.size + 1 ≠ w.heap.size; omega) (.int .i64 (min b.room (q.1 + g))))
      go_upto_region 4 with fail
      refine wp_region_PL [3, 7] (fun w' => w'.cell? ⟨w.heap.size, 0, none⟩ = some (.int .i64 b.room) ∧ w'.cell? ⟨w.heap.size, 9, none⟩ = some (.int .i64 q.1)) rfl (by kernel_rfl) (⟨HX.out.1, HX.out.2.1⟩) (fun hF0 => ?_)
      (refine wpAnyP_takeL (i := 0) (v := ?_) rfl (by kernel_rfl) (by kernel_rfl) (by kernel_rfl) (fun _ _ _ h => h) (by rfl) ?_ ?_; rotate_left 1; focus (intro w; go_simp; try with_reducible rfl))
      try simp only [Act.put, List.setIfInBounds_toArray, List.set_cons_zero, List.set_cons_succ]
      (refine wpAnyP_takeL (i := 1) (v := ?_) rfl (by kernel_rfl) (by kernel_rfl) (by kernel_rfl) (fun _ _ _ h => h) (by rfl) ?_ ?_; rotate_left 1; focus (intro w; go_simp; try with_reducible rfl))
      try simp only [Act.put, List.setIfInBounds_toArray, List.set_cons_zero, List.set_cons_succ]
      (refine wpAnyP_takeL (i := 2) (v := ?_) rfl (by kernel_rfl) (by kernel_rfl) (by kernel_rfl) (fun _ _ _ h => h) (by rfl) ?_ ?_; rotate_left 1; focus (intro w; go_simp; try with_reducible rfl))
      try simp only [Act.put, List.setIfInBounds_toArray, List.set_cons_zero, List.set_cons_succ]
      (refine wpAnyP_loadL (i := 3) (v := ?_) rfl (by kernel_rfl) (by kernel_rfl) (by kernel_rfl) (by rfl) (fun _ _ _ h => h) hF0 (by rfl) ?_ ?_; rotate_left 1; focus (intro w hFw; (try dsimp only at hFw); go_split_ands; go_simp; try with_reducible rfl))
      try simp only [Act.put, List.setIfInBounds_toArray, List.set_cons_zero, List.set_cons_succ]
      (refine wpAnyP_takeL (i := 4) (v := ?_) rfl (by kernel_rfl) (by kernel_rfl) (by kernel_rfl) (fun _ _ _ h => h) (by rfl) ?_ ?_; rotate_left 1; focus (intro w; go_simp; try with_reducible rfl))
      try simp only [Act.put, List.setIfInBounds_toArray, List.set_cons_zero, List.set_cons_succ]
      (refine wpAnyP_takeL (i := 5) (v := ?_) rfl (by kernel_rfl) (by kernel_rfl) (by kernel_rfl) (fun _ _ _ h => h) (by rfl) ?_ ?_; rotate_left 1; focus (intro w; go_simp; try with_reducible rfl))
      try simp only [Act.put, List.setIfInBounds_toArray, List.set_cons_zero, List.set_cons_succ]
      (refine wpAnyP_takeL (i := 6) (v := ?_) rfl (by kernel_rfl) (by kernel_rfl) (by kernel_rfl) (fun _ _ _ h => h) (by rfl) ?_ ?_; rotate_left 1; focus (intro w; go_simp; try with_reducible rfl))
      try simp only [Act.put, List.setIfInBounds_toArray, List.set_cons_zero, List.set_cons_succ]
      (refine wpAnyP_loadL (i := 7) (v := ?_) rfl (by kernel_rfl) (by kernel_rfl) (by kernel_rfl) (by rfl) (fun _ _ _ h => h) hF0 (by rfl) ?_ ?_; rotate_left 1; focus (intro w hFw; (try dsimp only at hFw); go_split_ands; go_simp; try with_reducible rfl))
      try simp only [Act.put, List.setIfInBounds_toArray, List.set_cons_zero, List.set_cons_succ]
      (refine wpAnyP_takeL (i := 8) (v := ?_) rfl (by kernel_rfl) (by kernel_rfl) (by kernel_rfl) (fun _ _ _ h => h) (by rfl) ?_ ?_; rotate_left 1; focus (intro w; go_simp; try with_reducible rfl))
      try simp only [Act.put, List.setIfInBounds_toArray, List.set_cons_zero, List.set_cons_succ]
      (refine wpAnyP_takeL (i := 9) (v := ?_) rfl (by kernel_rfl) (by kernel_rfl) (by kernel_rfl) (fun _ _ _ h => h) (by rfl) ?_ ?_; rotate_left 1; focus (intro w; go_simp; try with_reducible rfl))
      try simp only [Act.put, List.setIfInBounds_toArray, List.set_cons_zero, List.set_cons_succ]
      (refine wpAnyP_takeL (i := 10) (v := ?_) rfl (by kernel_rfl) (by kernel_rfl) (by kernel_rfl) (fun _ _ _ h => h) (by rfl) ?_ ?_; rotate_left 1; focus (intro w; go_simp; try with_reducible rfl))
      try simp only [Act.put, List.setIfInBounds_toArray, List.set_cons_zero, List.set_cons_succ]
      (refine wpAnyP_takeL (i := 11) (v := ?_) rfl (by kernel_rfl) (by kernel_rfl) (by kernel_rfl) (fun _ _ _ h => h) (by rfl) ?_ ?_; rotate_left 1; focus (intro w; go_simp; try with_reducible rfl))
      try simp only [Act.put, List.setIfInBounds_toArray, List.set_cons_zero, List.set_cons_succ]
      (refine wpAnyP_takeL (i := 12) (v := ?_) rfl (by kernel_rfl) (by kernel_rfl) (by kernel_rfl) (fun _ _ _ h => h) (by rfl) ?_ ?_; rotate_left 1; focus (intro w; go_simp; try with_reducible rfl))
      try simp only [Act.put, List.setIfInBounds_toArray, List.set_cons_zero, List.set_cons_succ]
      refine wpAnyP_last (i := 13) rfl (by kernel_rfl) (by kernel_rfl) (by rfl) (fun K hK => ?_)
      go_simp
      (refine hK _ _ ?_; clear hK K)
      try simp only [Act.put, List.setIfInBounds_toArray, List.set_cons_zero, List.set_cons_succ]
      refine wpAnyP_done (by kernel_rfl) ?_ _
      go_wp2_with fail
      go_roundw
      case rel => exact ⟨1, (min b.room (q.1 + g), q.2), by omega, by go_num, fun h => by omega, fun _ => rfl, fun h => by omega, HN.out.drew, HN2.out.drew, (HBE.out.setCell (p := ⟨w.heap.size, 9, none⟩) (Nat.le_refl _) _).drew⟩
      case measure => simp [intOf]
    · obtain rfl := hq1 rfl
      clear hq0 hq1 hq2
      have f10 := fx 10
      clear fx
      have HN := Lib.hid (show Blk (wr.setCell ⟨w.heap.size, 10, none⟩ (.int .i64 (min b.room (p.2 + g)))) w.heap.size 145 (stoA b (min b.room (p.1 + g), min b.room (p.2 + g))) from HB.out.set_ 10 (.int .i64 (min b.room (p.2 + g))))
      have HN2 := Lib.hid (HR.out.far (p := ⟨w.heap.size, 10, none⟩) (by show w.heap.size + 1 ≠ w.heap.size; omega) (.int .i64 (min b.room (p.2 + g))))
      go_upto_region 4 with fail
      refine wp_region_PL [3, 7] (fun w' => w'.cell? ⟨w.heap.size, 0, none⟩ = some (.int .i64 b.room) ∧ w'.cell? ⟨w.heap.size, 10, none⟩ = some (.int .i64 p.2)) rfl (by kernel_rfl) (⟨HX.out.1, HX.out.2.2⟩) (fun hF0 => ?_)
      (refine wpAnyP_takeL (i := 0) (v := ?_) rfl (by kernel_rfl) (by kernel_rfl) (by kernel_rfl) (fun _ _ _ h => h) (by rfl) ?_ ?_; rotate_left 1; focus (intro w; go_simp; try with_reducible rfl))
      try simp only [Act.put, List.setIfInBounds_toArray, List.set_cons_zero, List.set_cons_succ]
      (refine wpAnyP_takeL (i := 1) (v := ?_) rfl (by kernel_rfl) (by kernel_rfl) (by kernel_rfl) (fun _ _ _ h => h) (by rfl) ?_ ?_; rotate_left 1; focus (intro w; go_simp; try with_reducible rfl))
      try simp only [Act.put, List.setIfInBounds_toArray, List.set_cons_zero, List.set_cons_succ]
      (refine wpAnyP_takeL (i := 2) (v := ?_) rfl (by kernel_rfl) (by kernel_rfl) (by kernel_rfl) (fun _ _ _ h => h) (by rfl) ?_ ?_; rotate_left 1; focus (intro w; go_simp; try with_reducible rfl))
      try simp only [Act.put, List.setIfInBounds_toArray, List.set_cons_zero, List.set_cons_succ]
      (refine wpAnyP_loadL (i := 3) (v := ?_) rfl (by kernel_rfl) (by kernel_rfl) (by kernel_rfl) (by rfl) (fun _ _ _ h => h) hF0 (by rfl) ?_ ?_; rotate_left 1; focus (intro w hFw; (try dsimp only at hFw); go_split_ands; go_simp; try with_reducible rfl))
      try simp only [Act.put, List.setIfInBounds_toArray, List.set_cons_zero, List.set_cons_succ]
      (refine wpAnyP_takeL (i := 4) (v := ?_) rfl (by kernel_rfl) (by kernel_rfl) (by kernel_rfl) (fun _ _ _ h => h) (by rfl) ?_ ?_; rotate_left 1; focus (intro w; go_simp; try with_reducible rfl))
      try simp only [Act.put, List.setIfInBounds_toArray, List.set_cons_zero, List.set_cons_succ]
      (refine wpAnyP_takeL (i := 5) (v := ?_) rfl (by kernel_rfl) (by kernel_rfl) (by kernel_rfl) (fun _ _ _ h => h) (by rfl) ?_ ?_; rotate_left 1; focus (intro w; go_simp; try with_reducible rfl))
      try simp only [Act.put, List.setIfInBounds_toArray, List.set_cons_zero, List.set_cons_succ]
      (refine wpAnyP_takeL (i := 6) (v := ?_) rfl (by kernel_rfl) (by kernel_rfl) (by kernel_rfl) (fun _ _ _ h => h) (by rfl) ?_ ?_; rotate_left 1; focus (intro w; go_simp; try with_reducible rfl))
      try simp only [Act.put, List.setIfInBounds_toArray, List.set_cons_zero, List.set_cons_succ]
      (refine wpAnyP_loadL (i := 7) (v := ?_) rfl (by kernel_rfl) (by kernel_rfl) (by kernel_rfl) (by rfl) (fun _ _ _ h => h) hF0 (by rfl) ?_ ?_; rotate_left 1; focus (intro w hFw; (try dsimp only at hFw); go_split_ands; go_simp; try with_reducible rfl))
      try simp only [Act.put, List.setIfInBounds_toArray, List.set_cons_zero, List.set_cons_succ]
      (refine wpAnyP_takeL (i := 8) (v := ?_) rfl (by kernel_rfl) (by kernel_rfl) (by kernel_rfl) (fun _ _ _ h => h) (by rfl) ?_ ?_; rotate_left 1; focus (intro w; go_simp; try with_reducible rfl))
      try simp only [Act.put, List.setIfInBounds_toArray, List.set_cons_zero, List.set_cons_succ]
      (refine wpAnyP_takeL (i := 9) (v := ?_) rfl (by kernel_rfl) (by kernel_rfl) (by kernel_rfl) (fun _ _ _ h => h) (by rfl) ?_ ?_; rotate_left 1; focus (intro w; go_simp; try with_reducible rfl))
      try simp only [Act.put, List.setIfInBounds_toArray, List.set_cons_zero, List.set_cons_succ]
      (refine wpAnyP_takeL (i := 10) (v := ?_) rfl (by kernel_rfl) (by kernel_rfl) (by kernel_rfl) (fun _ _ _ h => h) (by rfl) ?_ ?_; rotate_left 1; focus (intro w; go_simp; try with_reducible rfl))
      try simp only [Act.put, List.setIfInBounds_toArray, List.set_cons_zero, List.set_cons_succ]
      (refine wpAnyP_takeL (i := 11) (v := ?_) rfl (by kernel_rfl) (by kernel_rfl) (by kernel_rfl) (fun _ _ _ h => h) (by rfl) ?_ ?_; rotate_left 1; focus (intro w; go_simp; try with_reducible rfl))
      try simp only [Act.put, List.setIfInBounds_toArray, List.set_cons_zero, List.set_cons_succ]
      (refine wpAnyP_takeL (i := 12) (v := ?_) rfl (by kernel_rfl) (by kernel_rfl) (by kernel_rfl) (fun _ _ _ h => h) (by rfl) ?_ ?_; rotate_left 1; focus (intro w; go_simp; try with_reducible rfl))
      try simp only [Act.put, List.setIfInBounds_toArray, List.set_cons_zero, List.set_cons_succ]
      refine wpAnyP_last (i := 13) rfl (by kernel_rfl) (by kernel_rfl) (by rfl) (fun K hK => ?_)
      go_simp
      (refine hK _ _ ?_; clear hK K)
      try simp only [Act.put, List.setIfInBounds_toArray, List.set_cons_zero, List.set_cons_succ]
      refine wpAnyP_done (by kernel_rfl) ?_ _
      go_wp2_with fail
      go_roundw
      case rel => exact ⟨2, putI b.room g p, by omega, by go_num, fun h => by omega, fun h => by omega, fun _ => rfl, HN.out.drew, HN2.out.drew, (HBE.out.setCell (p := ⟨w.heap.size, 10, none⟩) (Nat.le_refl _) _).drew⟩
      case measure => simp [intOf]
    · obtain rfl := hq2 rfl
      clear hq0 hq1 hq2 fx
      have x9 : wr.cell? ⟨w.heap.size, 9, none⟩ = some (.int .i64 (putI b.room g p).1) := HB.out.cell 9
      have x10 : wr.cell? ⟨w.heap.size, 10, none⟩ = some (.int .i64 (putI b.room g p).2) := HB.out.cell 10
      have f0 := HR.out.frozen 0
      have f1 := HR.out.frozen 1
      have r0 := HR.out.cell 0
      have r1 := HR.out.cell 1
      have hR2 := (HR.out.set_ 0 (.int .i64 (putI b.room g p).1)).set_ 1 (.int .i64 (putI b.room g p).2)
      have q0 := hR2.cell 0
      have q1 := hR2.cell 1
      clear hR2
      obtain ⟨u, hu⟩ : ∃ u, u = putI b.room g p := ⟨_, rfl⟩
      rw [← hu] at x9 x10 q0 q1
      have HU := Lib.hid hu
      clear hu
      go_wp2_with fail
      refine bodyPost_ret (v := iceV u) (by simp [results, Try.results70, go_sem, q0, q1, iceV]; try omega) rfl ⟨by rw [HU.out], ?_⟩
      exact (HBE.out.setCell (p := ⟨w.heap.size + 1, 0, none⟩) (by show w.heap.size ≤ w.heap.size + 1; omega) _).setCell (p := ⟨w.heap.size + 1, 1, none⟩) (by show w.heap.size ≤ w.heap.size + 1; omega) _

set_option maxHeartbeats 1000000 in
theorem lost1_any (a b : Span) (w : World) (ha : 0 ≤ a.lo ∧ a.lo ≤ 1000000000 ∧ 0 ≤ a.hi ∧ a.hi ≤ 1000000000) (hb : 0 ≤ b.lo ∧ b.lo ≤ 1000000000 ∧ 0 ≤ b.hi ∧ b.hi ≤ 1000000000) :
    Calls Try.prog 50 #[.agg #[.int .i64 a.lo, .int .i64 a.hi], .agg #[.int .i64 b.lo, .int .i64 b.hi]] w fun e w' => e = .returned (.agg #[.int .i64 (a.lo + b.lo), .int .i64 (a.hi + b.hi)]) ∧ Below w.heap.size w w' := by
  obtain ⟨a1, a2, a3, a4⟩ := ha
  obtain ⟨b1, b2, b3, b4⟩ := hb
  have hA := ((Blk.new w 32 #[.int .i64 a.lo, .int .i64 a.hi]).alloc (.cells #[.int .i64 b.lo, .int .i64 b.hi] 32)).alloc (.cells #[.int .i64 0, .int .i64 0] 32)
  have hB := (Blk.new (w.alloc (.cells #[.int .i64 a.lo, .int .i64 a.hi] 32)) 32 #[.int .i64 b.lo, .int .i64 b.hi]).alloc (.cells #[.int .i64 0, .int .i64 0] 32)
  have hR := Blk.new ((w.alloc (.cells #[.int .i64 a.lo, .int .i64 a.hi] 32)).alloc (.cells #[.int .i64 b.lo, .int .i64 b.hi] 32)) 32 #[.int .i64 0, .int .i64 0]
  simp only [World.size_alloc] at hB hR
  have x0 := hA.cell 0
  have x1 := hA.cell 1
  have y0 := hB.cell 0
  have y1 := hB.cell 1
  have f0 := hR.frozen 0
  have f1 := hR.frozen 1
  have r0 := hR.cell 0
  have r1 := hR.cell 1
  clear hA hB hR
  go_enter Try.func50, Try.ntmps50
  go_wp2_with fail
  refine bodyPost_ret (v := .agg #[.int .i64 (a.lo + b.lo), .int .i64 (a.hi + b.hi)]) (by simp [results, Try.results50, go_sem]; try omega) rfl ⟨rfl, ?_⟩
  exact (((Below.refl _ w).alloc (Nat.le_refl _) _).alloc (by simp) _).alloc (by simp; omega) _
end Go.Proofs.Ytmoolcpogilgkaa
