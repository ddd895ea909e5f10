/-
  Audited of the program.
-/
import Derived.Test.YtjmppionedcfeaaDoorAudLaw
import Derived.Test.YtjmppionedcfeaaDoorChk
import Derived.Test.YtjmppionedcfeaaDoorMap
import Derived.Test.YtjmppionedcfeaaDoorCopy
set_option linter.unusedVariables false
set_option linter.unusedSimpArgs false
namespace Go.Proofs.YtjmppionedcfeaaDoor
open Go.RowKit

theorem zeroBool (w : World) : (zeroValue 4).run Tryd.prog w = .ok (.bool false) w := by kernel_rfl
/-- a set of numbers: a map to true -/
def BMap (w : World) (b : Nat) (met : List Int) : Prop := ∃ L, IMap w b L ∧ ∀ k, (look k L).getD (.bool false) = .bool (decide (k ∈ met))
theorem BMap.lt {w : World} {b : Nat} {l : List Int} (h : BMap w b l) : b < w.heap.size := by obtain ⟨L, h, _⟩ := h; exact h.lt
theorem BMap.keep {w w' : World} {b : Nat} {l : List Int} (h : BMap w b l) (hb : w'.heap[b]? = w.heap[b]?) : BMap w' b l := by obtain ⟨L, h, h2⟩ := h; exact ⟨L, h.keep hb, h2⟩
theorem BMap.alloc {w : World} {b : Nat} {l : List Int} (h : BMap w b l) (o : Obj) : BMap (w.alloc o) b l := h.keep (Below.heap_alloc w o b h.lt)
theorem BMap.look {w : World} {b : Nat} {l : List Int} (h : BMap w b l) (s : Int) : (Instr.lookup 79 (.map (some b)) (.int .i64 s) false).run Tryd.prog w = .ok (.bool (decide (s ∈ l))) w := by
  obtain ⟨L, h, h2⟩ := h
  rw [run_lookupI Tryd.underlying79 Tryd.underlying3 zeroBool h s, h2]
theorem BMap.add {w : World} {b : Nat} {l : List Int} (h : BMap w b l) (s : Int) : ∃ w', (Instr.mapUpdate 79 (.map (some b)) (.int .i64 s) (.bool true)).run Tryd.prog w = .ok () w' ∧ BMap w' b (s :: l) ∧ w.grownBy w' (some b) := by
  obtain ⟨L, h, h2⟩ := h
  obtain ⟨w', h3, h4, h5⟩ := run_updateI Tryd.underlying79 Tryd.underlying3 h s (.bool true)
  refine ⟨w', h3, ⟨_, h4, fun k => ?_⟩, h5⟩
  rw [look_upd]
  by_cases hk : k = s
  · subst hk; simp
  · have : (k == s) = false := by simpa using hk
    rw [this]
    simp only [Bool.false_eq_true, if_false]
    rw [h2]
    simp [hk]

/-- how things stand while an audit is made: its book in block x, its result behind, the new sales in g, what is met in mp -/
structure AudSt (w W : World) (st gd : Int) (A : Option Addr) (n c g mp : Nat) (cur : List Sale) (met : List Int) : Prop where
  low : Below w.heap.size w W
  box : Blk W w.heap.size 24 #[.int .i64 st, .int .i64 gd, .slice A n c]
  res : Blk W (w.heap.size + 1) 24 #[.int .i64 0, .int .i64 0, .slice none 0 0]
  row : Blk W g 31 (cur.flatMap encS).toArray
  map : BMap W mp met
  hg : w.heap.size + 1 < g
  hm : g < mp
section
variable {w W W' : World} {st gd : Int} {A : Option Addr} {n c g mp : Nat} {cur : List Sale} {met : List Int}
theorem AudSt.alloc (h : AudSt w W st gd A n c g mp cur met) (o : Obj) : AudSt w (W.alloc o) st gd A n c g mp cur met :=
  ⟨h.low.alloc h.low.size _, h.box.alloc _, h.res.alloc _, h.row.alloc _, h.map.alloc _, h.hg, h.hm⟩
theorem AudSt.drewN (h : AudSt w W st gd A n c g mp cur met) (k : Nat) : AudSt w (W.drewN k) st gd A n c g mp cur met :=
  ⟨below_drewN h.low k, h.box, h.res, h.row, h.map, h.hg, h.hm⟩
theorem AudSt.drew (h : AudSt w W st gd A n c g mp cur met) : AudSt w W.drew st gd A n c g mp cur met := ⟨h.low.drew, h.box, h.res, h.row, h.map, h.hg, h.hm⟩
theorem AudSt.meet (h : AudSt w W st gd A n c g mp cur met) {met' : List Int} (hg : W.grownBy W' (some mp)) (hm : BMap W' mp met') : AudSt w W' st gd A n c g mp cur met' := by
  have h1 := h.hg
  have h2 := h.hm
  exact ⟨Below.stepG hg h.low (Nat.le_refl _) (by omega), h.box.grown hg (fun e => by injection e; omega), h.res.grown hg (fun e => by injection e; omega), h.row.grown hg (fun e => by injection e; omega), hm, h1, h2⟩
theorem AudSt.cells (h : AudSt w W st gd A n c g mp cur met) {k : Nat} (hk : k < cur.length) : W.cell? ⟨g, k * 6 + 2, none⟩ = some (.int .i64 cur[k].gl) ∧ W.cell? ⟨g, k * 6 + 3, none⟩ = some (.int .i64 cur[k].gh) ∧ W.cell? ⟨g, k * 6 + 4, none⟩ = some (.int .i64 cur[k].cl) ∧ W.cell? ⟨g, k * 6 + 5, none⟩ = some (.int .i64 cur[k].ch) := by
  refine ⟨?_, ?_, ?_, ?_⟩
  · rw [h.row.cell, ← Array.getElem?_toList]; exact flat_at encS_len cur k hk 2 _ rfl
  · rw [h.row.cell, ← Array.getElem?_toList]; exact flat_at encS_len cur k hk 3 _ rfl
  · rw [h.row.cell, ← Array.getElem?_toList]; exact flat_at encS_len cur k hk 4 _ rfl
  · rw [h.row.cell, ← Array.getElem?_toList]; exact flat_at encS_len cur k hk 5 _ rfl
end

theorem flat_put {α : Type} {enc : α → List Value} {m : Nat} (hm : ∀ x, (enc x).length = m) (l : List α) (k : Nat) (hk : k < l.length) (j : Nat) (hj : j < m) (x' : α) (u : Value) (h : enc x' = (enc l[k]).set j u) :
    (l.flatMap enc).set (k * m + j) u = (l.set k x').flatMap enc := by
  induction l generalizing k with
  | nil => simp at hk
  | cons s r ih =>
    cases k with
    | zero =>
      simp only [List.flatMap_cons, List.getElem_cons_zero, Nat.zero_mul, Nat.zero_add, List.set_cons_zero] at h ⊢
      rw [List.set_append_left _ _ (by rw [hm]; exact hj), h]
    | succ k =>
      simp only [List.flatMap_cons, List.getElem_cons_succ, List.set_cons_succ] at h ⊢
      rw [List.set_append_right _ _ (by rw [hm, Nat.succ_mul]; omega), hm, show (k + 1) * m + j - m = k * m + j from by rw [Nat.succ_mul]; omega, ih k (by simpa using hk) h]
theorem row_put (cur : List Sale) (j : Nat) (hj : j < cur.length) (sa gr ce : Int) :
    ((((cur.flatMap encS).toArray.setIfInBounds (j * 6 + 2) (.int .i64 gr)).setIfInBounds (j * 6 + 3) (.int .i64 gr)).setIfInBounds (j * 6 + 4) (.int .i64 ce)).setIfInBounds (j * 6 + 5) (.int .i64 ce) = ((cur.set j (setExact cur[j] ⟨sa, gr, ce⟩)).flatMap encS).toArray := by
  apply Array.toList_inj.1
  simp only [Array.toList_setIfInBounds]
  rw [flat_put encS_len cur j hj 2 (by omega) { cur[j] with gl := gr } _ rfl,
    flat_put encS_len _ j (by simpa using hj) 3 (by omega) { cur[j] with gl := gr, gh := gr } _ (by simp [encS]),
    flat_put encS_len _ j (by simpa using hj) 4 (by omega) { cur[j] with gl := gr, gh := gr, cl := ce } _ (by simp [encS]),
    flat_put encS_len _ j (by simpa using hj) 5 (by omega) (setExact cur[j] ⟨sa, gr, ce⟩) _ (by simp [encS, setExact])]
  simp
theorem Sl.of_blk {α : Type} {enc : α → List Value} {m : Nat} (hm : ∀ x, (enc x).length = m) {W : World} {g : Nat} {t : TypeId} {l : List α} (h : Blk W g t (l.flatMap enc).toArray) : Sl enc m W g (some ⟨g, 0, none⟩) l.length l := by
  refine ⟨rfl, fun hn => ⟨0, rfl, h.lt, fun k hk j u hu => ?_⟩⟩
  rw [h.cell, ← Array.getElem?_toList, show 0 + k * m + j = k * m + j from by omega]
  exact flat_at hm l k hk j u hu
theorem AudSt.put {w W : World} {st gd : Int} {A : Option Addr} {n c g mp : Nat} {cur : List Sale} {met : List Int} (h : AudSt w W st gd A n c g mp cur met) {j : Nat} (hj : j < cur.length) (sa gr ce : Int) :
    AudSt w ((((W.setCell ⟨g, j * 6 + 2, none⟩ (.int .i64 gr)).setCell ⟨g, j * 6 + 3, none⟩ (.int .i64 gr)).setCell ⟨g, j * 6 + 4, none⟩ (.int .i64 ce)).setCell ⟨g, j * 6 + 5, none⟩ (.int .i64 ce)) st gd A n c g mp (cur.set j (setExact cur[j] ⟨sa, gr, ce⟩)) met := by
  have h1 := h.hg
  have h2 := h.hm
  have ne1 : w.heap.size ≠ g := by omega
  have ne2 : w.heap.size + 1 ≠ g := by omega
  refine ⟨?_, (((h.box.far ne1 _).far ne1 _).far ne1 _).far ne1 _, (((h.res.far ne2 _).far ne2 _).far ne2 _).far ne2 _, ?_, ?_, h1, h2⟩
  · exact (((h.low.setCell (p := ⟨g, j * 6 + 2, none⟩) (by show w.heap.size ≤ g; omega) _).setCell (p := ⟨g, j * 6 + 3, none⟩) (by show w.heap.size ≤ g; omega) _).setCell (p := ⟨g, j * 6 + 4, none⟩) (by show w.heap.size ≤ g; omega) _).setCell (p := ⟨g, j * 6 + 5, none⟩) (by show w.heap.size ≤ g; omega) _
  · have := (((h.row.set_ (j * 6 + 2) (.int .i64 gr)).set_ (j * 6 + 3) (.int .i64 gr)).set_ (j * 6 + 4) (.int .i64 ce)).set_ (j * 6 + 5) (.int .i64 ce)
    rw [row_put cur j hj sa gr ce] at this
    exact this
  · refine h.map.keep ?_
    rw [Below.heap_setCell _ _ _ _ (by show mp ≠ g; omega), Below.heap_setCell _ _ _ _ (by show mp ≠ g; omega), Below.heap_setCell _ _ _ _ (by show mp ≠ g; omega), Below.heap_setCell _ _ _ _ (by show mp ≠ g; omega)]

/-- what Audited hands back -/
def AudPost (st gd : Int) (o : Int × List Sale) (w : World) (e : Ending) (w' : World) : Prop :=
  ∃ (A' : Option Addr) (m c' b' : Nat), e = .returned (.tuple #[.agg #[.int .i64 (if o.1 = 0 then st else 0), .int .i64 (if o.1 = 0 then gd else 0), .slice A' m c'], .int .i64 o.1]) ∧ Sl encS 6 w' b' A' m o.2 ∧ w.heap.size ≤ b' ∧ Below w.heap.size w w'

set_option maxRecDepth 100000 in
set_option maxHeartbeats 2000000 in
theorem audited_any (st gd : Int) (b n c b2 m c2 : Nat) (A A2 : Option Addr) (l : List Sale) (fs : List Found) (w : World) (hl : Sl encS 6 w b A n l) (hf : Sl encF 3 w b2 A2 m fs) (hn : n ≤ 1000000000000) (hm : m ≤ 1000000000000) :
    Calls Tryd.prog 16 #[.agg #[.int .i64 st, .int .i64 gd, .slice A n c], .slice A2 m c2] w (AudPost st gd (audited st gd l fs) w) := by
  have HL := Lib.hid hl
  have HF := Lib.hid hf
  have HA := Lib.hid hl.len
  have HFL := Lib.hid hf.len
  have x0 : Blk ((w.alloc (.cells #[.int .i64 st, .int .i64 gd, .slice A n c] 24)).alloc (.cells #[.int .i64 0, .int .i64 0, .slice none 0 0] 24)) w.heap.size 24 #[.int .i64 st, .int .i64 gd, .slice A n c] := (Blk.new w _ _).alloc _
  have x1 := Blk.new (w.alloc (.cells #[.int .i64 st, .int .i64 gd, .slice A n c] 24)) 24 #[.int .i64 0, .int .i64 0, .slice none 0 0]
  rw [World.size_alloc] at x1
  have xl : Below w.heap.size w ((w.alloc (.cells #[.int .i64 st, .int .i64 gd, .slice A n c] 24)).alloc (.cells #[.int .i64 0, .int .i64 0, .slice none 0 0] 24)) := by go_grown
  have X0 := Lib.hid x0
  have X1 := Lib.hid x1
  have XL := Lib.hid xl
  clear hl hf x0 x1 xl
  by_cases hc0 : check st gd l = 0
  · have HC := Lib.hid hc0
    have HIN := Lib.hid (check_zero.1 hc0)
    have hn40 : n ≤ 40 := by have := HIN.out.len; have := HA.out; omega
    clear hc0
    go_enter Tryd.func16, Tryd.ntmps16
    go_wp2_with fail
    refine (check_any st gd b n c A l _ (HL.out.old XL.out) hn).mono ?_
    rw [HC.out]
    rintro e w1 ⟨rfl, hB1⟩
    have Y0 := Lib.hid (X0.out.below hB1 X0.out.lt)
    have Y1 := Lib.hid (X1.out.below hB1 X1.out.lt)
    have YL := Lib.hid (Below.step hB1 XL.out (Nat.le_refl _))
    have hz1 := Y1.out.lt
    have y2 := Y0.out.cell 2
    have f0 := Y1.out.frozen 0
    have f1 := Y1.out.frozen 1
    have f2 := Y1.out.frozen 2
    have r0 := Y1.out.cell 0
    have r1 := Y1.out.cell 1
    have r2 := Y1.out.cell 2
    clear hB1
    by_cases h40 : 40 < m
    · have h40b : decide (40 < (m : Int)) = true := by simp; omega
      have HO := Lib.hid (show audited st gd l fs = (6, []) by unfold audited; rw [if_neg (by rw [HC.out]; exact fun h => h rfl), if_pos (by have := HFL.out; omega)])
      go_wp2_with fail
      have hX9 := ((Y1.out.set_ 0 (.int .i64 0)).set_ 1 (.int .i64 0)).set_ 2 (.slice none 0 0)
      have hL9 := ((YL.out.setCell (p := ⟨w.heap.size + 1, 0, none⟩) (by show w.heap.size ≤ w.heap.size + 1; omega) (.int .i64 0)).setCell (p := ⟨w.heap.size + 1, 1, none⟩) (by show w.heap.size ≤ w.heap.size + 1; omega) (.int .i64 0)).setCell (p := ⟨w.heap.size + 1, 2, none⟩) (by show w.heap.size ≤ w.heap.size + 1; omega) (.slice none 0 0)
      have d0 := hX9.cell 0
      have d1 := hX9.cell 1
      have d2 := hX9.cell 2
      refine bodyPost_ret (v := .tuple #[.agg #[.int .i64 0, .int .i64 0, .slice none 0 0], .int .i64 6]) (by simp [results, Tryd.f16, go_sem, d0, d1, d2]) rfl ?_
      rw [HO.out]
      exact ⟨none, 0, 0, w.heap.size, rfl, Sl.nil _ _ _, Nat.le_refl _, hL9⟩
    · have h40b : decide (40 < (m : Int)) = false := by simp; omega
      have HO := Lib.hid (show audited st gd l fs = audFrom l.length fs [] l by unfold audited; rw [if_neg (by rw [HC.out]; exact fun h => h rfl), if_neg (by have := HFL.out; omega)])
      have hmk := make_sales n (by omega)
      have hmm := @run_makeMap Tryd.prog
      obtain ⟨i0, hi, iz0, iz1, iz2⟩ := info_parts (show (Tryd.prog.info? 31).map (fun i => (i.zero, i.size, i.bytes)) = some (some (.agg #[.int .i64 0, .int .i64 0, .int .i64 0, .int .i64 0, .int .i64 0, .int .i64 0]), 6, 48) by kernel_rfl)
      clear f0 f1 f2 r0 r1 r2 h40
      have hz0 : w.heap.size < w1.heap.size := by omega
      have hrow0 := Blk.new w1 31 (madeCells #[.int .i64 0, .int .i64 0, .int .i64 0, .int .i64 0, .int .i64 0, .int .i64 0] (n * 6))
      have hsl1 := (HL.out.old YL.out).alloc (.cells (madeCells #[.int .i64 0, .int .i64 0, .int .i64 0, .int .i64 0, .int .i64 0, .int .i64 0] (n * 6)) 31)
      go_wp2_with (refine wpList_copy_sl rfl (.tmp 26) (.tmp 28) _ rfl 31 i0 Tryd.underlying22 hi iz1 w1.heap.size n n c 31 _ b A l rfl rfl hrow0 (size_madeCells _ _) hsl1 encS_len (by omega) oneS ?_; intro w2 hrow hg2; have hst2 := Lib.hid (And.intro hrow hg2); clear hrow hg2)
      obtain ⟨hrow, hg2⟩ := hst2.out
      have hz2 := hg2.size
      simp only [World.size_alloc] at hz2
      have hS : AudSt w (w2.alloc (.map #[] 0)) st gd A n c w1.heap.size w2.heap.size l [] :=
        ⟨(Below.stepG hg2 (YL.out.alloc (by omega) _) (Nat.le_refl _) (by omega)).alloc (by omega) _, ((Y0.out.alloc _).grown hg2 (fun e => by injection e; omega)).alloc _, ((Y1.out.alloc _).grown hg2 (fun e => by injection e; omega)).alloc _, hrow.alloc _, ⟨[], IMap.new w2, fun k => by simp [look]⟩, hz1, by omega⟩
      have HS := Lib.hid hS
      clear hrow hg2 hst2 hS hrow0 hsl1 y2
      go_loopw [33] (fun i wr => ∃ (k : Nat) (cur : List Sale) (met : List Int), k ≤ m ∧ i = .int .i64 k ∧ cur.length = n ∧ audFrom l.length (fs.drop k) met cur = audFrom l.length fs [] l ∧ AudSt w wr st gd A n c w1.heap.size w2.heap.size cur met) (fun i _ => m - (intOf i).toNat)
      case atStart => exact ⟨0, l, [], by omega, rfl, HA.out.symm, rfl, HS.out⟩
      case round =>
        obtain ⟨k, cur, met, hk, rfl, hcl, haf, hS⟩ := hrel
        have HCL := Lib.hid hcl
        have HAF := Lib.hid haf
        have HS := Lib.hid hS
        have b2' := hS.box.cell 2
        have hzb := hS.box.lt
        have hzr := hS.res.lt
        clear hcl haf hS
        by_cases hlt : k < m
        · have hk1 : k < fs.length := by have := HFL.out; omega
          obtain ⟨o2, rfl, hbz2, p0, p1, p2⟩ := (HF.out.old HS.out.low).atF hk1
          have hd := audFrom_drop (n := l.length) hk1 met cur
          generalize fs[k] = f at p0 p1 p2 hd
          obtain ⟨sa, gr, ce⟩ := f
          simp only at p0 p1 p2 hd
          have HD := Lib.hid hd
          have hS1 := HS.out.alloc (.cells #[.int .i64 sa, .int .i64 gr, .int .i64 ce] 54)
          have HS1 := Lib.hid hS1
          have KF := Lib.hid (Blk.new wr 54 #[.int .i64 sa, .int .i64 gr, .int .i64 ce])
          have f0 := HS.out.res.frozen 0
          have f1 := HS.out.res.frozen 1
          have f2 := HS.out.res.frozen 2
          have r0 := HS.out.res.cell 0
          have r1 := HS.out.res.cell 1
          have r2 := HS.out.res.cell 2
          have i0' : (0 : Int) ≤ (k : Int) := by omega
          have i1' : (k : Int) < (m : Int) := by omega
          clear hd hS1
          by_cases ht1 : inB sa 0 ((n : Int) - 1) = true
          · obtain ⟨hs0, hs1⟩ := inB_iff.1 ht1
            obtain ⟨j, rfl⟩ := Int.eq_ofNat_of_zero_le hs0
            have hlk := HS1.out.map.look (j : Int)
            by_cases hmet : (j : Int) ∈ met
            · rw [decide_eq_true hmet] at hlk
              have HMET := Lib.hid hmet
              have HT1 := Lib.hid ht1
              have HAV := Lib.hid (show audited st gd l fs = (4, []) by
                have ht1' := ht1
                rw [HA.out] at ht1'
                rw [HO.out, ← HAF.out, HD.out, ht1', if_neg (by decide), if_pos hmet])
              clear hmet ht1
              go_wp2_with fail
              refine (in_any _ _ _ _).mono ?_
              rw [HT1.out]
              rintro e w3 ⟨rfl, rfl⟩
              go_wp2_with fail
              have hX9 := (((HS.out.res.set_ 0 (.int .i64 0)).set_ 1 (.int .i64 0)).set_ 2 (.slice none 0 0)).alloc (.cells #[.int .i64 j, .int .i64 gr, .int .i64 ce] 54)
              have hL9 := (((HS.out.low.setCell (p := ⟨w.heap.size + 1, 0, none⟩) (by show w.heap.size ≤ w.heap.size + 1; omega) (.int .i64 0)).setCell (p := ⟨w.heap.size + 1, 1, none⟩) (by show w.heap.size ≤ w.heap.size + 1; omega) (.int .i64 0)).setCell (p := ⟨w.heap.size + 1, 2, none⟩) (by show w.heap.size ≤ w.heap.size + 1; omega) (.slice none 0 0)).alloc (by have := HS.out.low.size; simpa [World.setCell] using this) (.cells #[.int .i64 j, .int .i64 gr, .int .i64 ce] 54)
              have d0 := hX9.cell 0
              have d1 := hX9.cell 1
              have d2 := hX9.cell 2
              refine bodyPost_ret (v := .tuple #[.agg #[.int .i64 0, .int .i64 0, .slice none 0 0], .int .i64 4]) (by simp [results, Tryd.f16, go_sem, d0, d1, d2]) rfl ?_
              rw [HAV.out]
              exact ⟨none, 0, 0, w.heap.size, rfl, Sl.nil _ _ _, Nat.le_refl _, hL9⟩
            · rw [decide_eq_false hmet] at hlk
              have HMET := Lib.hid hmet
              have HT1 := Lib.hid ht1
              obtain ⟨w9, hrun, hm9, hg9⟩ := HS1.out.map.add (j : Int)
              have HS9 := Lib.hid (HS1.out.meet hg9 hm9)
              have KF9 := Lib.hid (KF.out.grown hg9 (fun e => by injection e; have := HS.out.map.lt; omega))
              have hjn : j < n := by omega
              have hjc : j < cur.length := by have := HCL.out; omega
              have q0 := KF9.out.cell 0
              have q1 := KF9.out.cell 1
              have q2 := KF9.out.cell 2
              have j1 : (j : Int) < (n : Int) := by omega
              have j0 : (0 : Int) ≤ (j : Int) := by omega
              have hdd := HD.out
              have ht1' := ht1
              rw [HA.out] at ht1'
              rw [ht1', if_neg (by decide), if_neg hmet, Int.toNat_natCast] at hdd
              have hcg : cur.getD j default = cur[j] := by simp [List.getD_eq_getElem?_getD, hjc]
              rw [hcg] at hdd
              have HDD := Lib.hid hdd
              have hcc := HS9.out.cells hjc
              have HCUR := Lib.hid (show ∀ v : Sale, v = setExact cur[j] ⟨(j : Int), gr, ce⟩ → encS v = ((((encS cur[j]).set 2 (.int .i64 gr)).set 3 (.int .i64 gr)).set 4 (.int .i64 ce)).set 5 (.int .i64 ce) from by rintro v rfl; rfl)
              generalize hs' : cur[j] = s at hcc HDD HCUR
              have HSS := Lib.hid hs'
              obtain ⟨c2', c3', c4', c5'⟩ := hcc
              clear hmet ht1 ht1' hdd hcg hm9 hg9 hs0 hs1 hs'
              go_wp2_with fail
              refine (in_any _ _ _ _).mono ?_
              rw [HT1.out]
              rintro e w3 ⟨rfl, rfl⟩
              go_wp2_with fail
              cases ht2 : inB gr s.gl s.gh
              · have HT2 := Lib.hid ht2
                have HAV := Lib.hid (show audited st gd l fs = (9, []) by rw [HO.out, ← HAF.out, HDD.out, ht2]; rfl)
                have g0 := HS9.out.res.frozen 0
                have g1 := HS9.out.res.frozen 1
                have g2 := HS9.out.res.frozen 2
                have e0' := HS9.out.res.cell 0
                have e1' := HS9.out.res.cell 1
                have e2' := HS9.out.res.cell 2
                clear ht2
                refine wp_region_PL [1, 6, 11] (fun W => (W.cell? ⟨wr.heap.size, 1, none⟩ = some (.int .i64 gr) ∧ W.cell? ⟨wr.heap.size, 2, none⟩ = some (.int .i64 ce)) ∧ W.cell? ⟨w1.heap.size, j * 6 + 2, none⟩ = some (.int .i64 s.gl) ∧ W.cell? ⟨w1.heap.size, j * 6 + 3, none⟩ = some (.int .i64 s.gh) ∧ W.cell? ⟨w1.heap.size, j * 6 + 4, none⟩ = some (.int .i64 s.cl) ∧ W.cell? ⟨w1.heap.size, j * 6 + 5, none⟩ = some (.int .i64 s.ch)) rfl (by kernel_rfl) (⟨⟨q1, q2⟩, c2', c3', c4', c5'⟩) (fun hF0 => ?_)
                (refine wpAnyP_takeL (i := 0) (v := ?_) rfl (by kernel_rfl) (by kernel_rfl) (by kernel_rfl) (fun _ _ _ h => h) (by rfl) ?_ ?_; rotate_left 1; focus (intro w; go_simp; try with_reducible rfl))
                try simp only [Act.put, List.setIfInBounds_toArray, List.set_cons_zero, List.set_cons_succ]
                (refine wpAnyP_loadL (i := 1) (v := ?_) rfl (by kernel_rfl) (by kernel_rfl) (by kernel_rfl) (by rfl) (fun _ _ _ h => h) hF0 (by rfl) ?_ ?_; rotate_left 1; focus (intro w hFw; (try dsimp only at hFw); go_split_ands; go_simp; try with_reducible rfl))
                try simp only [Act.put, List.setIfInBounds_toArray, List.set_cons_zero, List.set_cons_succ]
                (refine wpAnyP_takeL (i := 2) (v := ?_) rfl (by kernel_rfl) (by kernel_rfl) (by kernel_rfl) (fun _ _ _ h => h) (by rfl) ?_ ?_; rotate_left 1; focus (intro w; go_simp; try with_reducible rfl))
                try simp only [Act.put, List.setIfInBounds_toArray, List.set_cons_zero, List.set_cons_succ]
                (refine wpAnyP_takeL (i := 3) (v := ?_) rfl (by kernel_rfl) (by kernel_rfl) (by kernel_rfl) (fun _ _ _ h => h) (by rfl) ?_ ?_; rotate_left 1; focus (intro w; go_simp; try with_reducible rfl))
                try simp only [Act.put, List.setIfInBounds_toArray, List.set_cons_zero, List.set_cons_succ]
                (refine wpAnyP_takeL (i := 4) (v := ?_) rfl (by kernel_rfl) (by kernel_rfl) (by kernel_rfl) (fun _ _ _ h => h) (by rfl) ?_ ?_; rotate_left 1; focus (intro w; go_simp; try with_reducible rfl))
                try simp only [Act.put, List.setIfInBounds_toArray, List.set_cons_zero, List.set_cons_succ]
                (refine wpAnyP_takeL (i := 5) (v := ?_) rfl (by kernel_rfl) (by kernel_rfl) (by kernel_rfl) (fun _ _ _ h => h) (by rfl) ?_ ?_; rotate_left 1; focus (intro w; go_simp; try with_reducible rfl))
                try simp only [Act.put, List.setIfInBounds_toArray, List.set_cons_zero, List.set_cons_succ]
                (refine wpAnyP_loadL (i := 6) (v := ?_) rfl (by kernel_rfl) (by kernel_rfl) (by kernel_rfl) (by rfl) (fun _ _ _ h => h) hF0 (by rfl) ?_ ?_; rotate_left 1; focus (intro w hFw; (try dsimp only at hFw); go_split_ands; go_simp; try with_reducible rfl))
                try simp only [Act.put, List.setIfInBounds_toArray, List.set_cons_zero, List.set_cons_succ]
                (refine wpAnyP_takeL (i := 7) (v := ?_) rfl (by kernel_rfl) (by kernel_rfl) (by kernel_rfl) (fun _ _ _ h => h) (by rfl) ?_ ?_; rotate_left 1; focus (intro w; go_simp; try with_reducible rfl))
                try simp only [Act.put, List.setIfInBounds_toArray, List.set_cons_zero, List.set_cons_succ]
                (refine wpAnyP_takeL (i := 8) (v := ?_) rfl (by kernel_rfl) (by kernel_rfl) (by kernel_rfl) (fun _ _ _ h => h) (by rfl) ?_ ?_; rotate_left 1; focus (intro w; go_simp; try with_reducible rfl))
                try simp only [Act.put, List.setIfInBounds_toArray, List.set_cons_zero, List.set_cons_succ]
                (refine wpAnyP_takeL (i := 9) (v := ?_) rfl (by kernel_rfl) (by kernel_rfl) (by kernel_rfl) (fun _ _ _ h => h) (by rfl) ?_ ?_; rotate_left 1; focus (intro w; go_simp; try with_reducible rfl))
                try simp only [Act.put, List.setIfInBounds_toArray, List.set_cons_zero, List.set_cons_succ]
                (refine wpAnyP_takeL (i := 10) (v := ?_) rfl (by kernel_rfl) (by kernel_rfl) (by kernel_rfl) (fun _ _ _ h => h) (by rfl) ?_ ?_; rotate_left 1; focus (intro w; go_simp; try with_reducible rfl))
                try simp only [Act.put, List.setIfInBounds_toArray, List.set_cons_zero, List.set_cons_succ]
                (refine wpAnyP_loadL (i := 11) (v := ?_) rfl (by kernel_rfl) (by kernel_rfl) (by kernel_rfl) (by rfl) (fun _ _ _ h => h) hF0 (by rfl) ?_ ?_; rotate_left 1; focus (intro w hFw; (try dsimp only at hFw); go_split_ands; go_simp; try with_reducible rfl))
                try simp only [Act.put, List.setIfInBounds_toArray, List.set_cons_zero, List.set_cons_succ]
                refine wpAnyP_last (i := 12) rfl (by kernel_rfl) (by kernel_rfl) (by rfl) (fun K hK => ?_)
                go_simp
                (refine (in_any _ _ _ _).mono ?_; rw [HT2.out]; rintro e w4 ⟨rfl, rfl⟩)
                (refine hK _ _ ?_; clear hK K)
                try simp only [Act.put, List.setIfInBounds_toArray, List.set_cons_zero, List.set_cons_succ]
                (refine wpAnyP_takeL (i := 13) (v := ?_) rfl (by kernel_rfl) (by kernel_rfl) (by kernel_rfl) (fun _ _ _ h => h) (by rfl) ?_ ?_; rotate_left 1; focus (intro w; go_simp; try with_reducible rfl))
                try simp only [Act.put, List.setIfInBounds_toArray, List.set_cons_zero, List.set_cons_succ]
                (refine wpAnyP_takeL (i := 14) (v := ?_) rfl (by kernel_rfl) (by kernel_rfl) (by kernel_rfl) (fun _ _ _ h => h) (by rfl) ?_ ?_; rotate_left 1; focus (intro w; go_simp; try with_reducible rfl))
                try simp only [Act.put, List.setIfInBounds_toArray, List.set_cons_zero, List.set_cons_succ]
                (refine wpAnyP_skipL (i := 15) rfl (by kernel_rfl) (by kernel_rfl) (by kernel_rfl) (fun _ _ _ h => h) (by rfl) ?_)
                try simp only [Act.put, List.setIfInBounds_toArray, List.set_cons_zero, List.set_cons_succ]
                (refine wpAnyP_skipL (i := 16) rfl (by kernel_rfl) (by kernel_rfl) (by kernel_rfl) (fun _ _ _ h => h) (by rfl) ?_)
                try simp only [Act.put, List.setIfInBounds_toArray, List.set_cons_zero, List.set_cons_succ]
                (refine wpAnyP_skipL (i := 17) rfl (by kernel_rfl) (by kernel_rfl) (by kernel_rfl) (fun _ _ _ h => h) (by rfl) ?_)
                try simp only [Act.put, List.setIfInBounds_toArray, List.set_cons_zero, List.set_cons_succ]
                (refine wpAnyP_skipL (i := 18) rfl (by kernel_rfl) (by kernel_rfl) (by kernel_rfl) (fun _ _ _ h => h) (by rfl) ?_)
                try simp only [Act.put, List.setIfInBounds_toArray, List.set_cons_zero, List.set_cons_succ]
                (refine wpAnyP_skipL (i := 19) rfl (by kernel_rfl) (by kernel_rfl) (by kernel_rfl) (fun _ _ _ h => h) (by rfl) ?_)
                try simp only [Act.put, List.setIfInBounds_toArray, List.set_cons_zero, List.set_cons_succ]
                (refine wpAnyP_skipL (i := 20) rfl (by kernel_rfl) (by kernel_rfl) (by kernel_rfl) (fun _ _ _ h => h) (by rfl) ?_)
                try simp only [Act.put, List.setIfInBounds_toArray, List.set_cons_zero, List.set_cons_succ]
                (refine wpAnyP_skipL (i := 21) rfl (by kernel_rfl) (by kernel_rfl) (by kernel_rfl) (fun _ _ _ h => h) (by rfl) ?_)
                try simp only [Act.put, List.setIfInBounds_toArray, List.set_cons_zero, List.set_cons_succ]
                (refine wpAnyP_skipL (i := 22) rfl (by kernel_rfl) (by kernel_rfl) (by kernel_rfl) (fun _ _ _ h => h) (by rfl) ?_)
                try simp only [Act.put, List.setIfInBounds_toArray, List.set_cons_zero, List.set_cons_succ]
                (refine wpAnyP_skipL (i := 23) rfl (by kernel_rfl) (by kernel_rfl) (by kernel_rfl) (fun _ _ _ h => h) (by rfl) ?_)
                try simp only [Act.put, List.setIfInBounds_toArray, List.set_cons_zero, List.set_cons_succ]
                (refine wpAnyP_skipL (i := 24) rfl (by kernel_rfl) (by kernel_rfl) (by kernel_rfl) (fun _ _ _ h => h) (by rfl) ?_)
                try simp only [Act.put, List.setIfInBounds_toArray, List.set_cons_zero, List.set_cons_succ]
                (refine wpAnyP_skipL (i := 25) rfl (by kernel_rfl) (by kernel_rfl) (by kernel_rfl) (fun _ _ _ h => h) (by rfl) ?_)
                try simp only [Act.put, List.setIfInBounds_toArray, List.set_cons_zero, List.set_cons_succ]
                (refine wpAnyP_skipL (i := 26) rfl (by kernel_rfl) (by kernel_rfl) (by kernel_rfl) (fun _ _ _ h => h) (by rfl) ?_)
                try simp only [Act.put, List.setIfInBounds_toArray, List.set_cons_zero, List.set_cons_succ]
                (refine wpAnyP_skipL (i := 27) rfl (by kernel_rfl) (by kernel_rfl) (by kernel_rfl) (fun _ _ _ h => h) (by rfl) ?_)
                try simp only [Act.put, List.setIfInBounds_toArray, List.set_cons_zero, List.set_cons_succ]
                (refine wpAnyP_skipL (i := 28) rfl (by kernel_rfl) (by kernel_rfl) (by kernel_rfl) (fun _ _ _ h => h) (by rfl) ?_)
                try simp only [Act.put, List.setIfInBounds_toArray, List.set_cons_zero, List.set_cons_succ]
                (refine wpAnyP_takeL (i := 29) (v := ?_) rfl (by kernel_rfl) (by kernel_rfl) (by kernel_rfl) (fun _ _ _ h => h) (by rfl) ?_ ?_; rotate_left 1; focus (intro w; go_simp; try with_reducible rfl))
                try simp only [Act.put, List.setIfInBounds_toArray, List.set_cons_zero, List.set_cons_succ]
                refine wpAnyP_done (by kernel_rfl) ?_ _
                go_wp2_with fail
                have hX9 := ((HS9.out.res.set_ 0 (.int .i64 0)).set_ 1 (.int .i64 0)).set_ 2 (.slice none 0 0)
                have hL9 := (((HS9.out.low.setCell (p := ⟨w.heap.size + 1, 0, none⟩) (by show w.heap.size ≤ w.heap.size + 1; omega) (.int .i64 0)).setCell (p := ⟨w.heap.size + 1, 1, none⟩) (by show w.heap.size ≤ w.heap.size + 1; omega) (.int .i64 0)).setCell (p := ⟨w.heap.size + 1, 2, none⟩) (by show w.heap.size ≤ w.heap.size + 1; omega) (.slice none 0 0)).drew
                have d0 := hX9.cell 0
                have d1 := hX9.cell 1
                have d2 := hX9.cell 2
                refine bodyPost_ret (v := .tuple #[.agg #[.int .i64 0, .int .i64 0, .slice none 0 0], .int .i64 9]) (by simp [results, Tryd.f16, go_sem, d0, d1, d2]) rfl ?_
                rw [HAV.out]
                exact ⟨none, 0, 0, w.heap.size, rfl, Sl.nil _ _ _, Nat.le_refl _, hL9⟩
              cases ht3 : inB ce s.cl s.ch
              · have HT2 := Lib.hid ht2
                have HT3 := Lib.hid ht3
                have HAV := Lib.hid (show audited st gd l fs = (9, []) by rw [HO.out, ← HAF.out, HDD.out, ht2, ht3]; rfl)
                have g0 := HS9.out.res.frozen 0
                have g1 := HS9.out.res.frozen 1
                have g2 := HS9.out.res.frozen 2
                have e0' := HS9.out.res.cell 0
                have e1' := HS9.out.res.cell 1
                have e2' := HS9.out.res.cell 2
                clear ht2 ht3
                refine wp_region_PL [1, 6, 11, 16, 21, 26] (fun W => (W.cell? ⟨wr.heap.size, 1, none⟩ = some (.int .i64 gr) ∧ W.cell? ⟨wr.heap.size, 2, none⟩ = some (.int .i64 ce)) ∧ W.cell? ⟨w1.heap.size, j * 6 + 2, none⟩ = some (.int .i64 s.gl) ∧ W.cell? ⟨w1.heap.size, j * 6 + 3, none⟩ = some (.int .i64 s.gh) ∧ W.cell? ⟨w1.heap.size, j * 6 + 4, none⟩ = some (.int .i64 s.cl) ∧ W.cell? ⟨w1.heap.size, j * 6 + 5, none⟩ = some (.int .i64 s.ch)) rfl (by kernel_rfl) (⟨⟨q1, q2⟩, c2', c3', c4', c5'⟩) (fun hF0 => ?_)
                (refine wpAnyP_takeL (i := 0) (v := ?_) rfl (by kernel_rfl) (by kernel_rfl) (by kernel_rfl) (fun _ _ _ h => h) (by rfl) ?_ ?_; rotate_left 1; focus (intro w; go_simp; try with_reducible rfl))
                try simp only [Act.put, List.setIfInBounds_toArray, List.set_cons_zero, List.set_cons_succ]
                (refine wpAnyP_loadL (i := 1) (v := ?_) rfl (by kernel_rfl) (by kernel_rfl) (by kernel_rfl) (by rfl) (fun _ _ _ h => h) hF0 (by rfl) ?_ ?_; rotate_left 1; focus (intro w hFw; (try dsimp only at hFw); go_split_ands; go_simp; try with_reducible rfl))
                try simp only [Act.put, List.setIfInBounds_toArray, List.set_cons_zero, List.set_cons_succ]
                (refine wpAnyP_takeL (i := 2) (v := ?_) rfl (by kernel_rfl) (by kernel_rfl) (by kernel_rfl) (fun _ _ _ h => h) (by rfl) ?_ ?_; rotate_left 1; focus (intro w; go_simp; try with_reducible rfl))
                try simp only [Act.put, List.setIfInBounds_toArray, List.set_cons_zero, List.set_cons_succ]
                (refine wpAnyP_takeL (i := 3) (v := ?_) rfl (by kernel_rfl) (by kernel_rfl) (by kernel_rfl) (fun _ _ _ h => h) (by rfl) ?_ ?_; rotate_left 1; focus (intro w; go_simp; try with_reducible rfl))
                try simp only [Act.put, List.setIfInBounds_toArray, List.set_cons_zero, List.set_cons_succ]
                (refine wpAnyP_takeL (i := 4) (v := ?_) rfl (by kernel_rfl) (by kernel_rfl) (by kernel_rfl) (fun _ _ _ h => h) (by rfl) ?_ ?_; rotate_left 1; focus (intro w; go_simp; try with_reducible rfl))
                try simp only [Act.put, List.setIfInBounds_toArray, List.set_cons_zero, List.set_cons_succ]
                (refine wpAnyP_takeL (i := 5) (v := ?_) rfl (by kernel_rfl) (by kernel_rfl) (by kernel_rfl) (fun _ _ _ h => h) (by rfl) ?_ ?_; rotate_left 1; focus (intro w; go_simp; try with_reducible rfl))
                try simp only [Act.put, List.setIfInBounds_toArray, List.set_cons_zero, List.set_cons_succ]
                (refine wpAnyP_loadL (i := 6) (v := ?_) rfl (by kernel_rfl) (by kernel_rfl) (by kernel_rfl) (by rfl) (fun _ _ _ h => h) hF0 (by rfl) ?_ ?_; rotate_left 1; focus (intro w hFw; (try dsimp only at hFw); go_split_ands; go_simp; try with_reducible rfl))
                try simp only [Act.put, List.setIfInBounds_toArray, List.set_cons_zero, List.set_cons_succ]
                (refine wpAnyP_takeL (i := 7) (v := ?_) rfl (by kernel_rfl) (by kernel_rfl) (by kernel_rfl) (fun _ _ _ h => h) (by rfl) ?_ ?_; rotate_left 1; focus (intro w; go_simp; try with_reducible rfl))
                try simp only [Act.put, List.setIfInBounds_toArray, List.set_cons_zero, List.set_cons_succ]
                (refine wpAnyP_takeL (i := 8) (v := ?_) rfl (by kernel_rfl) (by kernel_rfl) (by kernel_rfl) (fun _ _ _ h => h) (by rfl) ?_ ?_; rotate_left 1; focus (intro w; go_simp; try with_reducible rfl))
                try simp only [Act.put, List.setIfInBounds_toArray, List.set_cons_zero, List.set_cons_succ]
                (refine wpAnyP_takeL (i := 9) (v := ?_) rfl (by kernel_rfl) (by kernel_rfl) (by kernel_rfl) (fun _ _ _ h => h) (by rfl) ?_ ?_; rotate_left 1; focus (intro w; go_simp; try with_reducible rfl))
                try simp only [Act.put, List.setIfInBounds_toArray, List.set_cons_zero, List.set_cons_succ]
                (refine wpAnyP_takeL (i := 10) (v := ?_) rfl (by kernel_rfl) (by kernel_rfl) (by kernel_rfl) (fun _ _ _ h => h) (by rfl) ?_ ?_; rotate_left 1; focus (intro w; go_simp; try with_reducible rfl))
                try simp only [Act.put, List.setIfInBounds_toArray, List.set_cons_zero, List.set_cons_succ]
                (refine wpAnyP_loadL (i := 11) (v := ?_) rfl (by kernel_rfl) (by kernel_rfl) (by kernel_rfl) (by rfl) (fun _ _ _ h => h) hF0 (by rfl) ?_ ?_; rotate_left 1; focus (intro w hFw; (try dsimp only at hFw); go_split_ands; go_simp; try with_reducible rfl))
                try simp only [Act.put, List.setIfInBounds_toArray, List.set_cons_zero, List.set_cons_succ]
                refine wpAnyP_step (i := 12) rfl (by kernel_rfl) (by rfl) (fun K hK => ?_)
                go_simp
                (refine (in_any _ _ _ _).mono ?_; rw [HT2.out]; rintro e w4 ⟨rfl, rfl⟩)
                (refine hK _ _ (⟨⟨q1, q2⟩, c2', c3', c4', c5'⟩) (fun hF1 => ?_); clear hK K hF0)
                try simp only [Act.put, List.setIfInBounds_toArray, List.set_cons_zero, List.set_cons_succ]
                (refine wpAnyP_takeL (i := 13) (v := ?_) rfl (by kernel_rfl) (by kernel_rfl) (by kernel_rfl) (fun _ _ _ h => h) (by rfl) ?_ ?_; rotate_left 1; focus (intro w; go_simp; try with_reducible rfl))
                try simp only [Act.put, List.setIfInBounds_toArray, List.set_cons_zero, List.set_cons_succ]
                (refine wpAnyP_takeL (i := 14) (v := ?_) rfl (by kernel_rfl) (by kernel_rfl) (by kernel_rfl) (fun _ _ _ h => h) (by rfl) ?_ ?_; rotate_left 1; focus (intro w; go_simp; try with_reducible rfl))
                try simp only [Act.put, List.setIfInBounds_toArray, List.set_cons_zero, List.set_cons_succ]
                (refine wpAnyP_takeL (i := 15) (v := ?_) rfl (by kernel_rfl) (by kernel_rfl) (by kernel_rfl) (fun _ _ _ h => h) (by rfl) ?_ ?_; rotate_left 1; focus (intro w; go_simp; try with_reducible rfl))
                try simp only [Act.put, List.setIfInBounds_toArray, List.set_cons_zero, List.set_cons_succ]
                (refine wpAnyP_loadL (i := 16) (v := ?_) rfl (by kernel_rfl) (by kernel_rfl) (by kernel_rfl) (by rfl) (fun _ _ _ h => h) hF1 (by rfl) ?_ ?_; rotate_left 1; focus (intro w hFw; (try dsimp only at hFw); go_split_ands; go_simp; try with_reducible rfl))
                try simp only [Act.put, List.setIfInBounds_toArray, List.set_cons_zero, List.set_cons_succ]
                (refine wpAnyP_takeL (i := 17) (v := ?_) rfl (by kernel_rfl) (by kernel_rfl) (by kernel_rfl) (fun _ _ _ h => h) (by rfl) ?_ ?_; rotate_left 1; focus (intro w; go_simp; try with_reducible rfl))
                try simp only [Act.put, List.setIfInBounds_toArray, List.set_cons_zero, List.set_cons_succ]
                (refine wpAnyP_takeL (i := 18) (v := ?_) rfl (by kernel_rfl) (by kernel_rfl) (by kernel_rfl) (fun _ _ _ h => h) (by rfl) ?_ ?_; rotate_left 1; focus (intro w; go_simp; try with_reducible rfl))
                try simp only [Act.put, List.setIfInBounds_toArray, List.set_cons_zero, List.set_cons_succ]
                (refine wpAnyP_takeL (i := 19) (v := ?_) rfl (by kernel_rfl) (by kernel_rfl) (by kernel_rfl) (fun _ _ _ h => h) (by rfl) ?_ ?_; rotate_left 1; focus (intro w; go_simp; try with_reducible rfl))
                try simp only [Act.put, List.setIfInBounds_toArray, List.set_cons_zero, List.set_cons_succ]
                (refine wpAnyP_takeL (i := 20) (v := ?_) rfl (by kernel_rfl) (by kernel_rfl) (by kernel_rfl) (fun _ _ _ h => h) (by rfl) ?_ ?_; rotate_left 1; focus (intro w; go_simp; try with_reducible rfl))
                try simp only [Act.put, List.setIfInBounds_toArray, List.set_cons_zero, List.set_cons_succ]
                (refine wpAnyP_loadL (i := 21) (v := ?_) rfl (by kernel_rfl) (by kernel_rfl) (by kernel_rfl) (by rfl) (fun _ _ _ h => h) hF1 (by rfl) ?_ ?_; rotate_left 1; focus (intro w hFw; (try dsimp only at hFw); go_split_ands; go_simp; try with_reducible rfl))
                try simp only [Act.put, List.setIfInBounds_toArray, List.set_cons_zero, List.set_cons_succ]
                (refine wpAnyP_takeL (i := 22) (v := ?_) rfl (by kernel_rfl) (by kernel_rfl) (by kernel_rfl) (fun _ _ _ h => h) (by rfl) ?_ ?_; rotate_left 1; focus (intro w; go_simp; try with_reducible rfl))
                try simp only [Act.put, List.setIfInBounds_toArray, List.set_cons_zero, List.set_cons_succ]
                (refine wpAnyP_takeL (i := 23) (v := ?_) rfl (by kernel_rfl) (by kernel_rfl) (by kernel_rfl) (fun _ _ _ h => h) (by rfl) ?_ ?_; rotate_left 1; focus (intro w; go_simp; try with_reducible rfl))
                try simp only [Act.put, List.setIfInBounds_toArray, List.set_cons_zero, List.set_cons_succ]
                (refine wpAnyP_takeL (i := 24) (v := ?_) rfl (by kernel_rfl) (by kernel_rfl) (by kernel_rfl) (fun _ _ _ h => h) (by rfl) ?_ ?_; rotate_left 1; focus (intro w; go_simp; try with_reducible rfl))
                try simp only [Act.put, List.setIfInBounds_toArray, List.set_cons_zero, List.set_cons_succ]
                (refine wpAnyP_takeL (i := 25) (v := ?_) rfl (by kernel_rfl) (by kernel_rfl) (by kernel_rfl) (fun _ _ _ h => h) (by rfl) ?_ ?_; rotate_left 1; focus (intro w; go_simp; try with_reducible rfl))
                try simp only [Act.put, List.setIfInBounds_toArray, List.set_cons_zero, List.set_cons_succ]
                (refine wpAnyP_loadL (i := 26) (v := ?_) rfl (by kernel_rfl) (by kernel_rfl) (by kernel_rfl) (by rfl) (fun _ _ _ h => h) hF1 (by rfl) ?_ ?_; rotate_left 1; focus (intro w hFw; (try dsimp only at hFw); go_split_ands; go_simp; try with_reducible rfl))
                try simp only [Act.put, List.setIfInBounds_toArray, List.set_cons_zero, List.set_cons_succ]
                refine wpAnyP_step (i := 27) rfl (by kernel_rfl) (by rfl) (fun K hK => ?_)
                go_simp
                (refine (in_any _ _ _ _).mono ?_; rw [HT3.out]; rintro e w4 ⟨rfl, rfl⟩)
                (refine hK _ _ (⟨⟨q1, q2⟩, c2', c3', c4', c5'⟩) (fun hF2 => ?_); clear hK K hF1)
                try simp only [Act.put, List.setIfInBounds_toArray, List.set_cons_zero, List.set_cons_succ]
                (refine wpAnyP_takeL (i := 28) (v := ?_) rfl (by kernel_rfl) (by kernel_rfl) (by kernel_rfl) (fun _ _ _ h => h) (by rfl) ?_ ?_; rotate_left 1; focus (intro w; go_simp; try with_reducible rfl))
                try simp only [Act.put, List.setIfInBounds_toArray, List.set_cons_zero, List.set_cons_succ]
                (refine wpAnyP_takeL (i := 29) (v := ?_) rfl (by kernel_rfl) (by kernel_rfl) (by kernel_rfl) (fun _ _ _ h => h) (by rfl) ?_ ?_; rotate_left 1; focus (intro w; go_simp; try with_reducible rfl))
                try simp only [Act.put, List.setIfInBounds_toArray, List.set_cons_zero, List.set_cons_succ]
                refine wpAnyP_done (by kernel_rfl) ?_ _
                go_wp2_with fail
                have hX9 := ((HS9.out.res.set_ 0 (.int .i64 0)).set_ 1 (.int .i64 0)).set_ 2 (.slice none 0 0)
                have hL9 := (((HS9.out.low.setCell (p := ⟨w.heap.size + 1, 0, none⟩) (by show w.heap.size ≤ w.heap.size + 1; omega) (.int .i64 0)).setCell (p := ⟨w.heap.size + 1, 1, none⟩) (by show w.heap.size ≤ w.heap.size + 1; omega) (.int .i64 0)).setCell (p := ⟨w.heap.size + 1, 2, none⟩) (by show w.heap.size ≤ w.heap.size + 1; omega) (.slice none 0 0)).drew
                have d0 := hX9.cell 0
                have d1 := hX9.cell 1
                have d2 := hX9.cell 2
                refine bodyPost_ret (v := .tuple #[.agg #[.int .i64 0, .int .i64 0, .slice none 0 0], .int .i64 9]) (by simp [results, Tryd.f16, go_sem, d0, d1, d2]) rfl ?_
                rw [HAV.out]
                exact ⟨none, 0, 0, w.heap.size, rfl, Sl.nil _ _ _, Nat.le_refl _, hL9⟩
              · have HT2 := Lib.hid ht2
                have HT3 := Lib.hid ht3
                have HNX := Lib.hid (show audFrom l.length (fs.drop (k + 1)) ((j : Int) :: met) (cur.set j (setExact s ⟨(j : Int), gr, ce⟩)) = audFrom l.length fs [] l by rw [← HAF.out, HDD.out, ht2, ht3]; rfl)
                clear ht2 ht3
                refine wp_region_PL [1, 6, 11, 16, 21, 26] (fun W => (W.cell? ⟨wr.heap.size, 1, none⟩ = some (.int .i64 gr) ∧ W.cell? ⟨wr.heap.size, 2, none⟩ = some (.int .i64 ce)) ∧ W.cell? ⟨w1.heap.size, j * 6 + 2, none⟩ = some (.int .i64 s.gl) ∧ W.cell? ⟨w1.heap.size, j * 6 + 3, none⟩ = some (.int .i64 s.gh) ∧ W.cell? ⟨w1.heap.size, j * 6 + 4, none⟩ = some (.int .i64 s.cl) ∧ W.cell? ⟨w1.heap.size, j * 6 + 5, none⟩ = some (.int .i64 s.ch)) rfl (by kernel_rfl) (⟨⟨q1, q2⟩, c2', c3', c4', c5'⟩) (fun hF0 => ?_)
                (refine wpAnyP_takeL (i := 0) (v := ?_) rfl (by kernel_rfl) (by kernel_rfl) (by kernel_rfl) (fun _ _ _ h => h) (by rfl) ?_ ?_; rotate_left 1; focus (intro w; go_simp; try with_reducible rfl))
                try simp only [Act.put, List.setIfInBounds_toArray, List.set_cons_zero, List.set_cons_succ]
                (refine wpAnyP_loadL (i := 1) (v := ?_) rfl (by kernel_rfl) (by kernel_rfl) (by kernel_rfl) (by rfl) (fun _ _ _ h => h) hF0 (by rfl) ?_ ?_; rotate_left 1; focus (intro w hFw; (try dsimp only at hFw); go_split_ands; go_simp; try with_reducible rfl))
                try simp only [Act.put, List.setIfInBounds_toArray, List.set_cons_zero, List.set_cons_succ]
                (refine wpAnyP_takeL (i := 2) (v := ?_) rfl (by kernel_rfl) (by kernel_rfl) (by kernel_rfl) (fun _ _ _ h => h) (by rfl) ?_ ?_; rotate_left 1; focus (intro w; go_simp; try with_reducible rfl))
                try simp only [Act.put, List.setIfInBounds_toArray, List.set_cons_zero, List.set_cons_succ]
                (refine wpAnyP_takeL (i := 3) (v := ?_) rfl (by kernel_rfl) (by kernel_rfl) (by kernel_rfl) (fun _ _ _ h => h) (by rfl) ?_ ?_; rotate_left 1; focus (intro w; go_simp; try with_reducible rfl))
                try simp only [Act.put, List.setIfInBounds_toArray, List.set_cons_zero, List.set_cons_succ]
                (refine wpAnyP_takeL (i := 4) (v := ?_) rfl (by kernel_rfl) (by kernel_rfl) (by kernel_rfl) (fun _ _ _ h => h) (by rfl) ?_ ?_; rotate_left 1; focus (intro w; go_simp; try with_reducible rfl))
                try simp only [Act.put, List.setIfInBounds_toArray, List.set_cons_zero, List.set_cons_succ]
                (refine wpAnyP_takeL (i := 5) (v := ?_) rfl (by kernel_rfl) (by kernel_rfl) (by kernel_rfl) (fun _ _ _ h => h) (by rfl) ?_ ?_; rotate_left 1; focus (intro w; go_simp; try with_reducible rfl))
                try simp only [Act.put, List.setIfInBounds_toArray, List.set_cons_zero, List.set_cons_succ]
                (refine wpAnyP_loadL (i := 6) (v := ?_) rfl (by kernel_rfl) (by kernel_rfl) (by kernel_rfl) (by rfl) (fun _ _ _ h => h) hF0 (by rfl) ?_ ?_; rotate_left 1; focus (intro w hFw; (try dsimp only at hFw); go_split_ands; go_simp; try with_reducible rfl))
                try simp only [Act.put, List.setIfInBounds_toArray, List.set_cons_zero, List.set_cons_succ]
                (refine wpAnyP_takeL (i := 7) (v := ?_) rfl (by kernel_rfl) (by kernel_rfl) (by kernel_rfl) (fun _ _ _ h => h) (by rfl) ?_ ?_; rotate_left 1; focus (intro w; go_simp; try with_reducible rfl))
                try simp only [Act.put, List.setIfInBounds_toArray, List.set_cons_zero, List.set_cons_succ]
                (refine wpAnyP_takeL (i := 8) (v := ?_) rfl (by kernel_rfl) (by kernel_rfl) (by kernel_rfl) (fun _ _ _ h => h) (by rfl) ?_ ?_; rotate_left 1; focus (intro w; go_simp; try with_reducible rfl))
                try simp only [Act.put, List.setIfInBounds_toArray, List.set_cons_zero, List.set_cons_succ]
                (refine wpAnyP_takeL (i := 9) (v := ?_) rfl (by kernel_rfl) (by kernel_rfl) (by kernel_rfl) (fun _ _ _ h => h) (by rfl) ?_ ?_; rotate_left 1; focus (intro w; go_simp; try with_reducible rfl))
                try simp only [Act.put, List.setIfInBounds_toArray, List.set_cons_zero, List.set_cons_succ]
                (refine wpAnyP_takeL (i := 10) (v := ?_) rfl (by kernel_rfl) (by kernel_rfl) (by kernel_rfl) (fun _ _ _ h => h) (by rfl) ?_ ?_; rotate_left 1; focus (intro w; go_simp; try with_reducible rfl))
                try simp only [Act.put, List.setIfInBounds_toArray, List.set_cons_zero, List.set_cons_succ]
                (refine wpAnyP_loadL (i := 11) (v := ?_) rfl (by kernel_rfl) (by kernel_rfl) (by kernel_rfl) (by rfl) (fun _ _ _ h => h) hF0 (by rfl) ?_ ?_; rotate_left 1; focus (intro w hFw; (try dsimp only at hFw); go_split_ands; go_simp; try with_reducible rfl))
                try simp only [Act.put, List.setIfInBounds_toArray, List.set_cons_zero, List.set_cons_succ]
                refine wpAnyP_step (i := 12) rfl (by kernel_rfl) (by rfl) (fun K hK => ?_)
                go_simp
                (refine (in_any _ _ _ _).mono ?_; rw [HT2.out]; rintro e w4 ⟨rfl, rfl⟩)
                (refine hK _ _ (⟨⟨q1, q2⟩, c2', c3', c4', c5'⟩) (fun hF1 => ?_); clear hK K hF0)
                try simp only [Act.put, List.setIfInBounds_toArray, List.set_cons_zero, List.set_cons_succ]
                (refine wpAnyP_takeL (i := 13) (v := ?_) rfl (by kernel_rfl) (by kernel_rfl) (by kernel_rfl) (fun _ _ _ h => h) (by rfl) ?_ ?_; rotate_left 1; focus (intro w; go_simp; try with_reducible rfl))
                try simp only [Act.put, List.setIfInBounds_toArray, List.set_cons_zero, List.set_cons_succ]
                (refine wpAnyP_takeL (i := 14) (v := ?_) rfl (by kernel_rfl) (by kernel_rfl) (by kernel_rfl) (fun _ _ _ h => h) (by rfl) ?_ ?_; rotate_left 1; focus (intro w; go_simp; try with_reducible rfl))
                try simp only [Act.put, List.setIfInBounds_toArray, List.set_cons_zero, List.set_cons_succ]
                (refine wpAnyP_takeL (i := 15) (v := ?_) rfl (by kernel_rfl) (by kernel_rfl) (by kernel_rfl) (fun _ _ _ h => h) (by rfl) ?_ ?_; rotate_left 1; focus (intro w; go_simp; try with_reducible rfl))
                try simp only [Act.put, List.setIfInBounds_toArray, List.set_cons_zero, List.set_cons_succ]
                (refine wpAnyP_loadL (i := 16) (v := ?_) rfl (by kernel_rfl) (by kernel_rfl) (by kernel_rfl) (by rfl) (fun _ _ _ h => h) hF1 (by rfl) ?_ ?_; rotate_left 1; focus (intro w hFw; (try dsimp only at hFw); go_split_ands; go_simp; try with_reducible rfl))
                try simp only [Act.put, List.setIfInBounds_toArray, List.set_cons_zero, List.set_cons_succ]
                (refine wpAnyP_takeL (i := 17) (v := ?_) rfl (by kernel_rfl) (by kernel_rfl) (by kernel_rfl) (fun _ _ _ h => h) (by rfl) ?_ ?_; rotate_left 1; focus (intro w; go_simp; try with_reducible rfl))
                try simp only [Act.put, List.setIfInBounds_toArray, List.set_cons_zero, List.set_cons_succ]
                (refine wpAnyP_takeL (i := 18) (v := ?_) rfl (by kernel_rfl) (by kernel_rfl) (by kernel_rfl) (fun _ _ _ h => h) (by rfl) ?_ ?_; rotate_left 1; focus (intro w; go_simp; try with_reducible rfl))
                try simp only [Act.put, List.setIfInBounds_toArray, List.set_cons_zero, List.set_cons_succ]
                (refine wpAnyP_takeL (i := 19) (v := ?_) rfl (by kernel_rfl) (by kernel_rfl) (by kernel_rfl) (fun _ _ _ h => h) (by rfl) ?_ ?_; rotate_left 1; focus (intro w; go_simp; try with_reducible rfl))
                try simp only [Act.put, List.setIfInBounds_toArray, List.set_cons_zero, List.set_cons_succ]
                (refine wpAnyP_takeL (i := 20) (v := ?_) rfl (by kernel_rfl) (by kernel_rfl) (by kernel_rfl) (fun _ _ _ h => h) (by rfl) ?_ ?_; rotate_left 1; focus (intro w; go_simp; try with_reducible rfl))
                try simp only [Act.put, List.setIfInBounds_toArray, List.set_cons_zero, List.set_cons_succ]
                (refine wpAnyP_loadL (i := 21) (v := ?_) rfl (by kernel_rfl) (by kernel_rfl) (by kernel_rfl) (by rfl) (fun _ _ _ h => h) hF1 (by rfl) ?_ ?_; rotate_left 1; focus (intro w hFw; (try dsimp only at hFw); go_split_ands; go_simp; try with_reducible rfl))
                try simp only [Act.put, List.setIfInBounds_toArray, List.set_cons_zero, List.set_cons_succ]
                (refine wpAnyP_takeL (i := 22) (v := ?_) rfl (by kernel_rfl) (by kernel_rfl) (by kernel_rfl) (fun _ _ _ h => h) (by rfl) ?_ ?_; rotate_left 1; focus (intro w; go_simp; try with_reducible rfl))
                try simp only [Act.put, List.setIfInBounds_toArray, List.set_cons_zero, List.set_cons_succ]
                (refine wpAnyP_takeL (i := 23) (v := ?_) rfl (by kernel_rfl) (by kernel_rfl) (by kernel_rfl) (fun _ _ _ h => h) (by rfl) ?_ ?_; rotate_left 1; focus (intro w; go_simp; try with_reducible rfl))
                try simp only [Act.put, List.setIfInBounds_toArray, List.set_cons_zero, List.set_cons_succ]
                (refine wpAnyP_takeL (i := 24) (v := ?_) rfl (by kernel_rfl) (by kernel_rfl) (by kernel_rfl) (fun _ _ _ h => h) (by rfl) ?_ ?_; rotate_left 1; focus (intro w; go_simp; try with_reducible rfl))
                try simp only [Act.put, List.setIfInBounds_toArray, List.set_cons_zero, List.set_cons_succ]
                (refine wpAnyP_takeL (i := 25) (v := ?_) rfl (by kernel_rfl) (by kernel_rfl) (by kernel_rfl) (fun _ _ _ h => h) (by rfl) ?_ ?_; rotate_left 1; focus (intro w; go_simp; try with_reducible rfl))
                try simp only [Act.put, List.setIfInBounds_toArray, List.set_cons_zero, List.set_cons_succ]
                (refine wpAnyP_loadL (i := 26) (v := ?_) rfl (by kernel_rfl) (by kernel_rfl) (by kernel_rfl) (by rfl) (fun _ _ _ h => h) hF1 (by rfl) ?_ ?_; rotate_left 1; focus (intro w hFw; (try dsimp only at hFw); go_split_ands; go_simp; try with_reducible rfl))
                try simp only [Act.put, List.setIfInBounds_toArray, List.set_cons_zero, List.set_cons_succ]
                refine wpAnyP_step (i := 27) rfl (by kernel_rfl) (by rfl) (fun K hK => ?_)
                go_simp
                (refine (in_any _ _ _ _).mono ?_; rw [HT3.out]; rintro e w4 ⟨rfl, rfl⟩)
                (refine hK _ _ (⟨⟨q1, q2⟩, c2', c3', c4', c5'⟩) (fun hF2 => ?_); clear hK K hF1)
                try simp only [Act.put, List.setIfInBounds_toArray, List.set_cons_zero, List.set_cons_succ]
                (refine wpAnyP_takeL (i := 28) (v := ?_) rfl (by kernel_rfl) (by kernel_rfl) (by kernel_rfl) (fun _ _ _ h => h) (by rfl) ?_ ?_; rotate_left 1; focus (intro w; go_simp; try with_reducible rfl))
                try simp only [Act.put, List.setIfInBounds_toArray, List.set_cons_zero, List.set_cons_succ]
                (refine wpAnyP_takeL (i := 29) (v := ?_) rfl (by kernel_rfl) (by kernel_rfl) (by kernel_rfl) (fun _ _ _ h => h) (by rfl) ?_ ?_; rotate_left 1; focus (intro w; go_simp; try with_reducible rfl))
                try simp only [Act.put, List.setIfInBounds_toArray, List.set_cons_zero, List.set_cons_succ]
                refine wpAnyP_done (by kernel_rfl) ?_ _
                have fr2 := HS9.out.row.frozen (j * 6 + 2)
                have fr3 := HS9.out.row.frozen (j * 6 + 3)
                have fr4 := HS9.out.row.frozen (j * 6 + 4)
                have fr5 := HS9.out.row.frozen (j * 6 + 5)
                have hwg : wr.heap.size ≠ w1.heap.size := by have := HS.out.row.lt; omega
                have hjz : j * 6 + 2 + 3 < (cur.flatMap encS).toArray.size := by rw [List.size_toArray, flat_len encS_len]; omega
                go_wp2_with fail
                refine wp_region_PL [3, 5, 8, 10] (fun W => (W.cell? ⟨wr.heap.size, 1, none⟩ = some (.int .i64 gr) ∧ W.cell? ⟨wr.heap.size, 2, none⟩ = some (.int .i64 ce))) rfl (by kernel_rfl) (⟨q1, q2⟩) (fun hF0 => ?_)
                (refine wpAnyP_takeL (i := 0) (v := ?_) rfl (by kernel_rfl) (by kernel_rfl) (by kernel_rfl) (fun _ _ _ h => h) (by rfl) ?_ ?_; rotate_left 1; focus (intro w; go_simp; try with_reducible rfl))
                try simp only [Act.put, List.setIfInBounds_toArray, List.set_cons_zero, List.set_cons_succ]
                (refine wpAnyP_takeL (i := 1) (v := ?_) rfl (by kernel_rfl) (by kernel_rfl) (by kernel_rfl) (fun _ _ _ h => h) (by rfl) ?_ ?_; rotate_left 1; focus (intro w; go_simp; try with_reducible rfl))
                try simp only [Act.put, List.setIfInBounds_toArray, List.set_cons_zero, List.set_cons_succ]
                (refine wpAnyP_takeL (i := 2) (v := ?_) rfl (by kernel_rfl) (by kernel_rfl) (by kernel_rfl) (fun _ _ _ h => h) (by rfl) ?_ ?_; rotate_left 1; focus (intro w; go_simp; try with_reducible rfl))
                try simp only [Act.put, List.setIfInBounds_toArray, List.set_cons_zero, List.set_cons_succ]
                (refine wpAnyP_loadL (i := 3) (v := ?_) rfl (by kernel_rfl) (by kernel_rfl) (by kernel_rfl) (by rfl) (fun _ _ _ h => h) hF0 (by rfl) ?_ ?_; rotate_left 1; focus (intro w hFw; (try dsimp only at hFw); go_split_ands; go_simp; try with_reducible rfl))
                try simp only [Act.put, List.setIfInBounds_toArray, List.set_cons_zero, List.set_cons_succ]
                (refine wpAnyP_takeL (i := 4) (v := ?_) rfl (by kernel_rfl) (by kernel_rfl) (by kernel_rfl) (fun _ _ _ h => h) (by rfl) ?_ ?_; rotate_left 1; focus (intro w; go_simp; try with_reducible rfl))
                try simp only [Act.put, List.setIfInBounds_toArray, List.set_cons_zero, List.set_cons_succ]
                (refine wpAnyP_loadL (i := 5) (v := ?_) rfl (by kernel_rfl) (by kernel_rfl) (by kernel_rfl) (by rfl) (fun _ _ _ h => h) hF0 (by rfl) ?_ ?_; rotate_left 1; focus (intro w hFw; (try dsimp only at hFw); go_split_ands; go_simp; try with_reducible rfl))
                try simp only [Act.put, List.setIfInBounds_toArray, List.set_cons_zero, List.set_cons_succ]
                (refine wpAnyP_takeL (i := 6) (v := ?_) rfl (by kernel_rfl) (by kernel_rfl) (by kernel_rfl) (fun _ _ _ h => h) (by rfl) ?_ ?_; rotate_left 1; focus (intro w; go_simp; try with_reducible rfl))
                try simp only [Act.put, List.setIfInBounds_toArray, List.set_cons_zero, List.set_cons_succ]
                (refine wpAnyP_takeL (i := 7) (v := ?_) rfl (by kernel_rfl) (by kernel_rfl) (by kernel_rfl) (fun _ _ _ h => h) (by rfl) ?_ ?_; rotate_left 1; focus (intro w; go_simp; try with_reducible rfl))
                try simp only [Act.put, List.setIfInBounds_toArray, List.set_cons_zero, List.set_cons_succ]
                (refine wpAnyP_loadL (i := 8) (v := ?_) rfl (by kernel_rfl) (by kernel_rfl) (by kernel_rfl) (by rfl) (fun _ _ _ h => h) hF0 (by rfl) ?_ ?_; rotate_left 1; focus (intro w hFw; (try dsimp only at hFw); go_split_ands; go_simp; try with_reducible rfl))
                try simp only [Act.put, List.setIfInBounds_toArray, List.set_cons_zero, List.set_cons_succ]
                (refine wpAnyP_takeL (i := 9) (v := ?_) rfl (by kernel_rfl) (by kernel_rfl) (by kernel_rfl) (fun _ _ _ h => h) (by rfl) ?_ ?_; rotate_left 1; focus (intro w; go_simp; try with_reducible rfl))
                try simp only [Act.put, List.setIfInBounds_toArray, List.set_cons_zero, List.set_cons_succ]
                (refine wpAnyP_loadL (i := 10) (v := ?_) rfl (by kernel_rfl) (by kernel_rfl) (by kernel_rfl) (by rfl) (fun _ _ _ h => h) hF0 (by rfl) ?_ ?_; rotate_left 1; focus (intro w hFw; (try dsimp only at hFw); go_split_ands; go_simp; try with_reducible rfl))
                try simp only [Act.put, List.setIfInBounds_toArray, List.set_cons_zero, List.set_cons_succ]
                (refine wpAnyP_takeL (i := 11) (v := ?_) rfl (by kernel_rfl) (by kernel_rfl) (by kernel_rfl) (fun _ _ _ h => h) (by rfl) ?_ ?_; rotate_left 1; focus (intro w; go_simp; try with_reducible rfl))
                try simp only [Act.put, List.setIfInBounds_toArray, List.set_cons_zero, List.set_cons_succ]
                (refine wpAnyP_takeL (i := 12) (v := ?_) rfl (by kernel_rfl) (by kernel_rfl) (by kernel_rfl) (fun _ _ _ h => h) (by rfl) ?_ ?_; rotate_left 1; focus (intro w; go_simp; try with_reducible rfl))
                try simp only [Act.put, List.setIfInBounds_toArray, List.set_cons_zero, List.set_cons_succ]
                (refine wpAnyP_takeL (i := 13) (v := ?_) rfl (by kernel_rfl) (by kernel_rfl) (by kernel_rfl) (fun _ _ _ h => h) (by rfl) ?_ ?_; rotate_left 1; focus (intro w; go_simp; try with_reducible rfl))
                try simp only [Act.put, List.setIfInBounds_toArray, List.set_cons_zero, List.set_cons_succ]
                refine wpAnyP_step (i := 14) rfl (by kernel_rfl) (by rfl) (fun K hK => ?_)
                go_simp
                (go_simp)
                (refine hK _ _ (⟨((KF9.out.far (p := ⟨w1.heap.size, j * 6 + 2, none⟩) hwg _).far (p := ⟨w1.heap.size, j * 6 + 3, none⟩) hwg _).cell 1, ((KF9.out.far (p := ⟨w1.heap.size, j * 6 + 2, none⟩) hwg _).far (p := ⟨w1.heap.size, j * 6 + 3, none⟩) hwg _).cell 2⟩) (fun hF1 => ?_); clear hK K hF0)
                try simp only [Act.put, List.setIfInBounds_toArray, List.set_cons_zero, List.set_cons_succ]
                (refine wpAnyP_takeL (i := 15) (v := ?_) rfl (by kernel_rfl) (by kernel_rfl) (by kernel_rfl) (fun _ _ _ h => h) (by rfl) ?_ ?_; rotate_left 1; focus (intro w; go_simp; try with_reducible rfl))
                try simp only [Act.put, List.setIfInBounds_toArray, List.set_cons_zero, List.set_cons_succ]
                (refine wpAnyP_takeL (i := 16) (v := ?_) rfl (by kernel_rfl) (by kernel_rfl) (by kernel_rfl) (fun _ _ _ h => h) (by rfl) ?_ ?_; rotate_left 1; focus (intro w; go_simp; try with_reducible rfl))
                try simp only [Act.put, List.setIfInBounds_toArray, List.set_cons_zero, List.set_cons_succ]
                refine wpAnyP_last (i := 17) rfl (by kernel_rfl) (by kernel_rfl) (by rfl) (fun K hK => ?_)
                go_simp
                (go_simp)
                (refine hK _ _ ?_; clear hK K)
                try simp only [Act.put, List.setIfInBounds_toArray, List.set_cons_zero, List.set_cons_succ]
                refine wpAnyP_done (by kernel_rfl) ?_ _
                go_wp2_with fail
                go_roundw
                case rel => exact ⟨k + 1, _, _, by omega, by go_num, by rw [List.length_set]; exact HCL.out, by rw [HSS.out]; exact HNX.out, (HS9.out.put hjc (j : Int) gr ce).drewN 2⟩
                case measure => simp [intOf]; omega
          · have HT1 := Lib.hid (show inB sa 0 ((n : Int) - 1) = false by simpa using ht1)
            have HAV := Lib.hid (show audited st gd l fs = (3, []) by
              have := HCL.out
              have := HA.out
              rw [HO.out, ← HAF.out, HD.out, ← HA.out, HT1.out]
              rfl)
            clear ht1
            go_wp2_with fail
            refine (in_any _ _ _ _).mono ?_
            rw [HT1.out]
            rintro e w3 ⟨rfl, rfl⟩
            go_wp2_with fail
            have hX9 := (((HS.out.res.set_ 0 (.int .i64 0)).set_ 1 (.int .i64 0)).set_ 2 (.slice none 0 0)).alloc (.cells #[.int .i64 sa, .int .i64 gr, .int .i64 ce] 54)
            have hL9 := (((HS.out.low.setCell (p := ⟨w.heap.size + 1, 0, none⟩) (by show w.heap.size ≤ w.heap.size + 1; omega) (.int .i64 0)).setCell (p := ⟨w.heap.size + 1, 1, none⟩) (by show w.heap.size ≤ w.heap.size + 1; omega) (.int .i64 0)).setCell (p := ⟨w.heap.size + 1, 2, none⟩) (by show w.heap.size ≤ w.heap.size + 1; omega) (.slice none 0 0)).alloc (by have := HS.out.low.size; simpa [World.setCell] using this) (.cells #[.int .i64 sa, .int .i64 gr, .int .i64 ce] 54)
            have d0 := hX9.cell 0
            have d1 := hX9.cell 1
            have d2 := hX9.cell 2
            refine bodyPost_ret (v := .tuple #[.agg #[.int .i64 0, .int .i64 0, .slice none 0 0], .int .i64 3]) (by simp [results, Tryd.f16, go_sem, d0, d1, d2]) rfl ?_
            rw [HAV.out]
            exact ⟨none, 0, 0, w.heap.size, rfl, Sl.nil _ _ _, Nat.le_refl _, hL9⟩
        · have HK := Lib.hid (show m ≤ k by omega)
          have hS := HS.out
          have b0' := hS.box.cell 0
          have b1' := hS.box.cell 1
          have g2 := hS.box.frozen 2
          have f0 := hS.res.frozen 0
          have f1 := hS.res.frozen 1
          have f2 := hS.res.frozen 2
          have r0 := hS.res.cell 0
          have r1 := hS.res.cell 1
          have r2 := hS.res.cell 2
          have HX := Lib.hid hS
          clear hS
          go_wp2_with fail
          have hS := HX.out
          have ne1 : w.heap.size + 1 ≠ w.heap.size := by omega
          have hx := (((hS.res.far (p := ⟨w.heap.size, 2, none⟩) ne1 (.slice (some ⟨w1.heap.size, 0, none⟩) n n)).set_ 0 (.int .i64 st)).set_ 1 (.int .i64 gd)).set_ 2 (.slice (some ⟨w1.heap.size, 0, none⟩) n n)
          have d0 := hx.cell 0
          have d1 := hx.cell 1
          have d2 := hx.cell 2
          refine bodyPost_ret (v := .tuple #[.agg #[.int .i64 st, .int .i64 gd, .slice (some ⟨w1.heap.size, 0, none⟩) n n], .int .i64 0]) (by simp [results, Tryd.f16, go_sem, d0, d1, d2]) rfl ?_
          have hau : audited st gd l fs = (0, cur) := by
            rw [HO.out, ← HAF.out, List.drop_eq_nil_of_le (by have := HK.out; have := HFL.out; omega)]
            rfl
          have hg1 := hS.hg
          have n1 : w1.heap.size ≠ w.heap.size := by omega
          have n2 : w1.heap.size ≠ w.heap.size + 1 := by omega
          have hrow := (((hS.row.far (p := ⟨w.heap.size, 2, none⟩) n1 (.slice (some ⟨w1.heap.size, 0, none⟩) n n)).far (p := ⟨w.heap.size + 1, 0, none⟩) n2 (.int .i64 st)).far (p := ⟨w.heap.size + 1, 1, none⟩) n2 (.int .i64 gd)).far (p := ⟨w.heap.size + 1, 2, none⟩) n2 (.slice (some ⟨w1.heap.size, 0, none⟩) n n)
          have hsl := Sl.of_blk encS_len hrow
          rw [HCL.out] at hsl
          rw [hau]
          exact ⟨_, n, n, w1.heap.size, rfl, hsl, by omega, (((hS.low.setCell (p := ⟨w.heap.size, 2, none⟩) (Nat.le_refl _) _).setCell (p := ⟨w.heap.size + 1, 0, none⟩) (by show w.heap.size ≤ w.heap.size + 1; omega) _).setCell (p := ⟨w.heap.size + 1, 1, none⟩) (by show w.heap.size ≤ w.heap.size + 1; omega) _).setCell (p := ⟨w.heap.size + 1, 2, none⟩) (by show w.heap.size ≤ w.heap.size + 1; omega) _⟩
  · have HC := Lib.hid (show (check st gd l != 0) = true by simpa using hc0)
    have HO := Lib.hid (show audited st gd l fs = (check st gd l, []) by unfold audited; rw [if_pos hc0])
    have HN0 := Lib.hid (show ¬ check st gd l = 0 from hc0)
    have hcb : (check st gd l != 0) = true := HC.out
    clear hc0
    go_enter Tryd.func16, Tryd.ntmps16
    go_wp2_with fail
    refine (check_any st gd b n c A l _ (HL.out.old XL.out) hn).mono ?_
    rintro e w1 ⟨rfl, hB1⟩
    have Y1 := Lib.hid (X1.out.below hB1 X1.out.lt)
    have YL := Lib.hid (Below.step hB1 XL.out (Nat.le_refl _))
    have f0 := Y1.out.frozen 0
    have f1 := Y1.out.frozen 1
    have f2 := Y1.out.frozen 2
    have r0 := Y1.out.cell 0
    have r1 := Y1.out.cell 1
    have r2 := Y1.out.cell 2
    clear hB1
    go_wp2_with fail
    have hX9 := ((Y1.out.set_ 0 (.int .i64 0)).set_ 1 (.int .i64 0)).set_ 2 (.slice none 0 0)
    have hL9 := ((YL.out.setCell (p := ⟨w.heap.size + 1, 0, none⟩) (by show w.heap.size ≤ w.heap.size + 1; omega) (.int .i64 0)).setCell (p := ⟨w.heap.size + 1, 1, none⟩) (by show w.heap.size ≤ w.heap.size + 1; omega) (.int .i64 0)).setCell (p := ⟨w.heap.size + 1, 2, none⟩) (by show w.heap.size ≤ w.heap.size + 1; omega) (.slice none 0 0)
    have d0 := hX9.cell 0
    have d1 := hX9.cell 1
    have d2 := hX9.cell 2
    refine bodyPost_ret (v := .tuple #[.agg #[.int .i64 0, .int .i64 0, .slice none 0 0], .int .i64 (check st gd l)]) (by simp [results, Tryd.f16, go_sem, d0, d1, d2]) rfl ?_
    rw [HO.out]
    exact ⟨none, 0, 0, w.heap.size, by simp only [HN0.out, if_false], Sl.nil _ _ _, Nat.le_refl _, hL9⟩
end Go.Proofs.YtjmppionedcfeaaDoor
