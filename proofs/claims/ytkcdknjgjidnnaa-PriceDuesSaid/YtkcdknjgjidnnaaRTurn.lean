/-
  Turnovers, of the reference.
-/
import Derived.Test.YtkcdknjgjidnnaaTnv
import Derived.Test.YtkcdknjgjidnnaaRChk
import Derived.Test.YtkcdknjgjidnnaaReg2
set_option linter.unusedVariables false
set_option linter.unusedSimpArgs false
namespace Go.Proofs.Ytkcdknjgjidnnaa
open Go.RowKit

theorem wrap_in {x : Int} (h0 : -9223372036854775808 ≤ x) (h1 : x ≤ 9223372036854775807) : IntKind.i64.wrap x = x := by
  simp [IntKind.wrap, IntKind.bits, IntKind.signed]
  omega
theorem wrap_turn {u m : Int} (h0 : 0 ≤ u) (h1 : u ≤ 400000000) (h2 : 0 ≤ m) (h3 : m ≤ 10000000000) : IntKind.i64.wrap (u + IntKind.i64.wrap ((IntKind.i64.wrap m).tdiv 1000)) = u + m / 1000 := by
  rw [wrap_in (x := m) (by omega) (by omega), Int.tdiv_eq_ediv_of_nonneg h2, wrap_in (x := m / 1000) (by omega) (by omega), wrap_in (by omega) (by omega)]

structure RT (w : World) (st gd : Int) (A : Option Addr) (n c : Nat) (lo hi : Int) (wr : World) : Prop where
  low : Below w.heap.size w wr
  bk : Blk wr w.heap.size 24 #[.int .i64 st, .int .i64 gd, .slice A n c]
  sp : Blk wr (w.heap.size + 1) 26 #[.int .i64 0, .int .i64 0]
  ou : Blk wr (w.heap.size + 1 + 1) 26 #[.int .i64 lo, .int .i64 hi]
theorem RT.alloc {w wr : World} {st gd : Int} {A : Option Addr} {n c : Nat} {lo hi : Int} (h : RT w st gd A n c lo hi wr) (o : Obj) : RT w st gd A n c lo hi (wr.alloc o) := ⟨h.low.alloc h.low.size _, h.bk.alloc _, h.sp.alloc _, h.ou.alloc _⟩
theorem RT.sets {w wr : World} {st gd : Int} {A : Option Addr} {n c : Nat} {lo hi : Int} (h : RT w st gd A n c lo hi wr) (x y : Int) : RT w st gd A n c x y (((wr.setCell ⟨w.heap.size + 1 + 1, 0, none⟩ (.int .i64 x)).setCell ⟨w.heap.size + 1 + 1, 1, none⟩ (.int .i64 y)).drew) :=
  ⟨((h.low.setCell (p := ⟨w.heap.size + 1 + 1, 0, none⟩) (by show w.heap.size ≤ w.heap.size + 1 + 1; omega) _).setCell (p := ⟨w.heap.size + 1 + 1, 1, none⟩) (by show w.heap.size ≤ w.heap.size + 1 + 1; omega) _).drew,
   (h.bk.far (by show w.heap.size ≠ w.heap.size + 1 + 1; omega) _).far (by show w.heap.size ≠ w.heap.size + 1 + 1; omega) _,
   (h.sp.far (by show w.heap.size + 1 ≠ w.heap.size + 1 + 1; omega) _).far (by show w.heap.size + 1 ≠ w.heap.size + 1 + 1; omega) _,
   (h.ou.set_ 0 _).set_ 1 _⟩

set_option maxRecDepth 100000 in
set_option maxHeartbeats 1000000 in
theorem rturn_any (st gd stall : Int) (b n c : Nat) (A : Option Addr) (l : List Sale) (w : World) (hl : Sl encS 6 w b A n l) (hin : BookIn st gd l) :
    Calls Try.prog 73 #[.agg #[.int .i64 st, .int .i64 gd, .slice A n c], .int .i64 stall] w fun e w' => e = .returned (.agg #[.int .i64 (turn l stall).lo, .int .i64 (turn l stall).hi]) ∧ Below w.heap.size w w' := by
  have HA := Lib.hid hl.len
  have hn40 : n ≤ 40 := by have := hin.len; have := hl.len; omega
  have HL := Lib.hid hl
  have HI := Lib.hid hin
  have HR0 : RT w st gd A n c 0 0 (((w.alloc (.cells #[.int .i64 st, .int .i64 gd, .slice A n c] 24)).alloc (.cells #[.int .i64 0, .int .i64 0] 26)).alloc (.cells #[.int .i64 0, .int .i64 0] 26)) := by
    refine ⟨by go_grown, ((Blk.new w 24 _).alloc _).alloc _, ?_, ?_⟩
    · have := (Blk.new (w.alloc (.cells #[.int .i64 st, .int .i64 gd, .slice A n c] 24)) 26 #[.int .i64 0, .int .i64 0]).alloc (.cells #[.int .i64 0, .int .i64 0] 26)
      simpa only [World.size_alloc] using this
    · have := Blk.new ((w.alloc (.cells #[.int .i64 st, .int .i64 gd, .slice A n c] 24)).alloc (.cells #[.int .i64 0, .int .i64 0] 26)) 26 #[.int .i64 0, .int .i64 0]
      simpa only [World.size_alloc] using this
  have HR0 := Lib.hid HR0
  clear hl hin
  go_enter Try.func73, Try.ntmps73
  go_wp2_with fail
  go_loopw [6] (fun i wr => ∃ k : Nat, k ≤ n ∧ i = .int .i64 k ∧ RT w st gd A n c (turn (l.take k) stall).lo (turn (l.take k) stall).hi wr) (fun i _ => n - (intOf i).toNat)
  case atStart => exact ⟨0, by omega, rfl, HR0.out⟩
  case round =>
    obtain ⟨k, hk, rfl, hO⟩ := hrel
    have HO := Lib.hid hO
    have c2' := hO.bk.cell 2
    have hz := hO.bk.lt
    clear hO
    by_cases hlt : k < n
    · have hk1 : k < l.length := by have := HA.out; omega
      obtain ⟨o, rfl, hbz, s0, s1, s2, s3, s4, s5⟩ := (HL.out.old HO.out.low).atS hk1
      have HP := Lib.hid (show turn (l.take (k + 1)) stall = _ by rw [take_snoc l k hk1, turn_snoc])
      have hsal := HI.out.sales _ (List.getElem_mem hk1)
      obtain ⟨t1, t2, t3⟩ := turn_bd (l := l.take k) (fun s hs => HI.out.sales s (List.mem_of_mem_take hs)) stall
      have t4 : ((l.take k).length : Int) ≤ 40 := by have := List.length_take_le k l; omega
      have t5 : (turn (l.take k) stall).hi ≤ 400000000 := by omega
      generalize l[k] = y at s0 s1 s2 s3 s4 s5 HP hsal
      generalize turn (l.take k) stall = u at t1 t2 t3 t5 HO HP ⊢
      clear t3 t4
      obtain ⟨m1, m2⟩ := sale_bd hsal.gl0 (by have := hsal.gl1; have := hsal.gh1; omega) hsal.cl0 (by have := hsal.cl1; have := hsal.ch1; omega)
      obtain ⟨m3, m4⟩ := sale_bd (g := y.gh) (c := y.ch) (by have := hsal.gl1; have := hsal.gl0; omega) hsal.gh1 (by have := hsal.cl1; have := hsal.cl0; omega) hsal.ch1
      clear hsal
      have e0 : (0 : Int) ≤ (k : Int) := by omega
      have e1 : (k : Int) < (n : Int) := by omega
      have HBX := Lib.hid (Blk.new wr 28 #[.int .i64 y.st, .int .i64 y.gd, .int .i64 y.gl, .int .i64 y.gh, .int .i64 y.cl, .int .i64 y.ch])
      have HO3 := Lib.hid (HO.out.alloc (.cells #[.int .i64 y.st, .int .i64 y.gd, .int .i64 y.gl, .int .i64 y.gh, .int .i64 y.cl, .int .i64 y.ch] 28))
      by_cases hs : y.st = stall
      · have hsb : (y.st == stall) = true := by simpa using hs
        have HP2 := Lib.hid (show turn (l.take (k + 1)) stall = ⟨u.lo + y.gl * y.cl / 1000, u.hi + y.gh * y.ch / 1000⟩ by rw [HP.out, if_pos hs])
        clear hs
        have HW1 := Lib.hid (wrap_turn (u := u.lo) t1 (by omega) m1 m2)
        have HW2 := Lib.hid (wrap_turn (u := u.hi) (by omega) t5 m3 m4)
        have hfr : wr.heap.size ≠ w.heap.size + 1 + 1 := by have := HO.out.ou.lt; omega
        go_wp2_with fail
        refine wp_region_K2 [1, 12] [4, 7, 15, 18] (fun (w' : World) => w'.cell? ⟨w.heap.size + 1 + 1, 0, none⟩ = some (.int .i64 u.lo) ∧ w'.cell? ⟨w.heap.size + 1 + 1, 1, none⟩ = some (.int .i64 u.hi)) (fun (w' : World) => w'.cell? ⟨wr.heap.size, 2, none⟩ = some (.int .i64 y.gl) ∧ w'.cell? ⟨wr.heap.size, 3, none⟩ = some (.int .i64 y.gh) ∧ w'.cell? ⟨wr.heap.size, 4, none⟩ = some (.int .i64 y.cl) ∧ w'.cell? ⟨wr.heap.size, 5, none⟩ = some (.int .i64 y.ch)) rfl (by kernel_rfl) (⟨HO3.out.ou.drew.cell 0, HO3.out.ou.drew.cell 1⟩) (⟨HBX.out.drew.cell 2, HBX.out.drew.cell 3, HBX.out.drew.cell 4, HBX.out.drew.cell 5⟩) (fun hF0 hG0 => ?_)
        (refine wpAnyK_takeL Keep2.refl (i := 0) (v := ?_) rfl (by kernel_rfl) (by kernel_rfl) (by kernel_rfl) (fun _ _ _ h => h) (by rfl) ?_ ?_; rotate_left 1; focus (intro w; go_simp; try with_reducible rfl))
        try simp only [Act.put, List.setIfInBounds_toArray, List.set_cons_zero, List.set_cons_succ]
        (refine wpAnyK_loadL Keep2.refl (i := 1) (v := ?_) rfl (Keep2.left (i := 1) (by rfl)) (by kernel_rfl) (by kernel_rfl) (by kernel_rfl) (fun _ _ _ h => h) hF0 (by rfl) ?_ ?_; rotate_left 1; focus (intro w hFw; (try dsimp only at hFw); go_split_ands; go_simp; try with_reducible rfl))
        try simp only [Act.put, List.setIfInBounds_toArray, List.set_cons_zero, List.set_cons_succ]
        (refine wpAnyK_takeL Keep2.refl (i := 2) (v := ?_) rfl (by kernel_rfl) (by kernel_rfl) (by kernel_rfl) (fun _ _ _ h => h) (by rfl) ?_ ?_; rotate_left 1; focus (intro w; go_simp; try with_reducible rfl))
        try simp only [Act.put, List.setIfInBounds_toArray, List.set_cons_zero, List.set_cons_succ]
        (refine wpAnyK_takeL Keep2.refl (i := 3) (v := ?_) rfl (by kernel_rfl) (by kernel_rfl) (by kernel_rfl) (fun _ _ _ h => h) (by rfl) ?_ ?_; rotate_left 1; focus (intro w; go_simp; try with_reducible rfl))
        try simp only [Act.put, List.setIfInBounds_toArray, List.set_cons_zero, List.set_cons_succ]
        (refine wpAnyK_loadL Keep2.refl (i := 4) (v := ?_) rfl (Keep2.right (i := 4) (by rfl)) (by kernel_rfl) (by kernel_rfl) (by kernel_rfl) (fun _ _ _ h => h) hG0 (by rfl) ?_ ?_; rotate_left 1; focus (intro w hFw; (try dsimp only at hFw); go_split_ands; go_simp; try with_reducible rfl))
        try simp only [Act.put, List.setIfInBounds_toArray, List.set_cons_zero, List.set_cons_succ]
        (refine wpAnyK_takeL Keep2.refl (i := 5) (v := ?_) rfl (by kernel_rfl) (by kernel_rfl) (by kernel_rfl) (fun _ _ _ h => h) (by rfl) ?_ ?_; rotate_left 1; focus (intro w; go_simp; try with_reducible rfl))
        try simp only [Act.put, List.setIfInBounds_toArray, List.set_cons_zero, List.set_cons_succ]
        (refine wpAnyK_takeL Keep2.refl (i := 6) (v := ?_) rfl (by kernel_rfl) (by kernel_rfl) (by kernel_rfl) (fun _ _ _ h => h) (by rfl) ?_ ?_; rotate_left 1; focus (intro w; go_simp; try with_reducible rfl))
        try simp only [Act.put, List.setIfInBounds_toArray, List.set_cons_zero, List.set_cons_succ]
        (refine wpAnyK_loadL Keep2.refl (i := 7) (v := ?_) rfl (Keep2.right (i := 7) (by rfl)) (by kernel_rfl) (by kernel_rfl) (by kernel_rfl) (fun _ _ _ h => h) hG0 (by rfl) ?_ ?_; rotate_left 1; focus (intro w hFw; (try dsimp only at hFw); go_split_ands; go_simp; try with_reducible rfl))
        try simp only [Act.put, List.setIfInBounds_toArray, List.set_cons_zero, List.set_cons_succ]
        (refine wpAnyK_takeL Keep2.refl (i := 8) (v := ?_) rfl (by kernel_rfl) (by kernel_rfl) (by kernel_rfl) (fun _ _ _ h => h) (by rfl) ?_ ?_; rotate_left 1; focus (intro w; go_simp; try with_reducible rfl))
        try simp only [Act.put, List.setIfInBounds_toArray, List.set_cons_zero, List.set_cons_succ]
        (refine wpAnyK_takeL Keep2.refl (i := 9) (v := ?_) rfl (by kernel_rfl) (by kernel_rfl) (by kernel_rfl) (fun _ _ _ h => h) (by rfl) ?_ ?_; rotate_left 1; focus (intro w; go_simp; try with_reducible rfl))
        try simp only [Act.put, List.setIfInBounds_toArray, List.set_cons_zero, List.set_cons_succ]
        (refine wpAnyK_takeL Keep2.refl (i := 10) (v := ?_) rfl (by kernel_rfl) (by kernel_rfl) (by kernel_rfl) (fun _ _ _ h => h) (by rfl) ?_ ?_; rotate_left 1; focus (intro w; go_simp; try with_reducible rfl))
        try simp only [Act.put, List.setIfInBounds_toArray, List.set_cons_zero, List.set_cons_succ]
        (refine wpAnyK_takeL Keep2.refl (i := 11) (v := ?_) rfl (by kernel_rfl) (by kernel_rfl) (by kernel_rfl) (fun _ _ _ h => h) (by rfl) ?_ ?_; rotate_left 1; focus (intro w; go_simp; try with_reducible rfl))
        try simp only [Act.put, List.setIfInBounds_toArray, List.set_cons_zero, List.set_cons_succ]
        (refine wpAnyK_loadL Keep2.refl (i := 12) (v := ?_) rfl (Keep2.left (i := 12) (by rfl)) (by kernel_rfl) (by kernel_rfl) (by kernel_rfl) (fun _ _ _ h => h) hF0 (by rfl) ?_ ?_; rotate_left 1; focus (intro w hFw; (try dsimp only at hFw); go_split_ands; go_simp; try with_reducible rfl))
        try simp only [Act.put, List.setIfInBounds_toArray, List.set_cons_zero, List.set_cons_succ]
        (refine wpAnyK_takeL Keep2.refl (i := 13) (v := ?_) rfl (by kernel_rfl) (by kernel_rfl) (by kernel_rfl) (fun _ _ _ h => h) (by rfl) ?_ ?_; rotate_left 1; focus (intro w; go_simp; try with_reducible rfl))
        try simp only [Act.put, List.setIfInBounds_toArray, List.set_cons_zero, List.set_cons_succ]
        (refine wpAnyK_takeL Keep2.refl (i := 14) (v := ?_) rfl (by kernel_rfl) (by kernel_rfl) (by kernel_rfl) (fun _ _ _ h => h) (by rfl) ?_ ?_; rotate_left 1; focus (intro w; go_simp; try with_reducible rfl))
        try simp only [Act.put, List.setIfInBounds_toArray, List.set_cons_zero, List.set_cons_succ]
        (refine wpAnyK_loadL Keep2.refl (i := 15) (v := ?_) rfl (Keep2.right (i := 15) (by rfl)) (by kernel_rfl) (by kernel_rfl) (by kernel_rfl) (fun _ _ _ h => h) hG0 (by rfl) ?_ ?_; rotate_left 1; focus (intro w hFw; (try dsimp only at hFw); go_split_ands; go_simp; try with_reducible rfl))
        try simp only [Act.put, List.setIfInBounds_toArray, List.set_cons_zero, List.set_cons_succ]
        (refine wpAnyK_takeL Keep2.refl (i := 16) (v := ?_) rfl (by kernel_rfl) (by kernel_rfl) (by kernel_rfl) (fun _ _ _ h => h) (by rfl) ?_ ?_; rotate_left 1; focus (intro w; go_simp; try with_reducible rfl))
        try simp only [Act.put, List.setIfInBounds_toArray, List.set_cons_zero, List.set_cons_succ]
        (refine wpAnyK_takeL Keep2.refl (i := 17) (v := ?_) rfl (by kernel_rfl) (by kernel_rfl) (by kernel_rfl) (fun _ _ _ h => h) (by rfl) ?_ ?_; rotate_left 1; focus (intro w; go_simp; try with_reducible rfl))
        try simp only [Act.put, List.setIfInBounds_toArray, List.set_cons_zero, List.set_cons_succ]
        (refine wpAnyK_loadL Keep2.refl (i := 18) (v := ?_) rfl (Keep2.right (i := 18) (by rfl)) (by kernel_rfl) (by kernel_rfl) (by kernel_rfl) (fun _ _ _ h => h) hG0 (by rfl) ?_ ?_; rotate_left 1; focus (intro w hFw; (try dsimp only at hFw); go_split_ands; go_simp; try with_reducible rfl))
        try simp only [Act.put, List.setIfInBounds_toArray, List.set_cons_zero, List.set_cons_succ]
        (refine wpAnyK_takeL Keep2.refl (i := 19) (v := ?_) rfl (by kernel_rfl) (by kernel_rfl) (by kernel_rfl) (fun _ _ _ h => h) (by rfl) ?_ ?_; rotate_left 1; focus (intro w; go_simp; try with_reducible rfl))
        try simp only [Act.put, List.setIfInBounds_toArray, List.set_cons_zero, List.set_cons_succ]
        (refine wpAnyK_takeL Keep2.refl (i := 20) (v := ?_) rfl (by kernel_rfl) (by kernel_rfl) (by kernel_rfl) (fun _ _ _ h => h) (by rfl) ?_ ?_; rotate_left 1; focus (intro w; go_simp; try with_reducible rfl))
        try simp only [Act.put, List.setIfInBounds_toArray, List.set_cons_zero, List.set_cons_succ]
        (refine wpAnyK_takeL Keep2.refl (i := 21) (v := ?_) rfl (by kernel_rfl) (by kernel_rfl) (by kernel_rfl) (fun _ _ _ h => h) (by rfl) ?_ ?_; rotate_left 1; focus (intro w; go_simp; try with_reducible rfl))
        try simp only [Act.put, List.setIfInBounds_toArray, List.set_cons_zero, List.set_cons_succ]
        (refine wpAnyK_takeL Keep2.refl (i := 22) (v := ?_) rfl (by kernel_rfl) (by kernel_rfl) (by kernel_rfl) (fun _ _ _ h => h) (by rfl) ?_ ?_; rotate_left 1; focus (intro w; go_simp; try with_reducible rfl))
        try simp only [Act.put, List.setIfInBounds_toArray, List.set_cons_zero, List.set_cons_succ]
        refine wpAnyK_step (i := 23) rfl (by kernel_rfl) (by rfl) (fun K hK => ?_)
        go_simp
        (rw [HW1.out, HW2.out]; have f0 := HO3.out.ou.frozen 0; have q0 := HO3.out.ou.cell 0; go_simp; clear f0 q0)
        (refine hK _ _ (Keep2.no1 (by kernel_rfl) (fun _ => ⟨(HBX.out.far (p := ⟨w.heap.size + 1 + 1, 0, none⟩) hfr _).cell 2, (HBX.out.far (p := ⟨w.heap.size + 1 + 1, 0, none⟩) hfr _).cell 3, (HBX.out.far (p := ⟨w.heap.size + 1 + 1, 0, none⟩) hfr _).cell 4, (HBX.out.far (p := ⟨w.heap.size + 1 + 1, 0, none⟩) hfr _).cell 5⟩)) ?_; clear hK K)
        (refine wpAnyK_with (F := fun (w' : World) => w'.cell? ⟨wr.heap.size, 2, none⟩ = some (.int .i64 y.gl) ∧ w'.cell? ⟨wr.heap.size, 3, none⟩ = some (.int .i64 y.gh) ∧ w'.cell? ⟨wr.heap.size, 4, none⟩ = some (.int .i64 y.cl) ∧ w'.cell? ⟨wr.heap.size, 5, none⟩ = some (.int .i64 y.ch)) (⟨(HBX.out.far (p := ⟨w.heap.size + 1 + 1, 0, none⟩) hfr _).cell 2, (HBX.out.far (p := ⟨w.heap.size + 1 + 1, 0, none⟩) hfr _).cell 3, (HBX.out.far (p := ⟨w.heap.size + 1 + 1, 0, none⟩) hfr _).cell 4, (HBX.out.far (p := ⟨w.heap.size + 1 + 1, 0, none⟩) hfr _).cell 5⟩) (fun hG1 => ?_); clear hG0)
        try simp only [Act.put, List.setIfInBounds_toArray, List.set_cons_zero, List.set_cons_succ]
        (refine wpAnyK_takeL Keep2.refl (i := 24) (v := ?_) rfl (by kernel_rfl) (by kernel_rfl) (by kernel_rfl) (fun _ _ _ h => h) (by rfl) ?_ ?_; rotate_left 1; focus (intro w; go_simp; try with_reducible rfl))
        try simp only [Act.put, List.setIfInBounds_toArray, List.set_cons_zero, List.set_cons_succ]
        refine wpAnyK_step (i := 25) rfl (by kernel_rfl) (by rfl) (fun K hK => ?_)
        go_simp
        (have f1 := (HO3.out.ou.set_ 0 (.int .i64 (u.lo + y.gl * y.cl / 1000))).frozen 1; have q1 := (HO3.out.ou.set_ 0 (.int .i64 (u.lo + y.gl * y.cl / 1000))).cell 1; have f2 := HO3.out.ou.frozen 1; have q2 := HO3.out.ou.cell 1; go_simp; clear f1 q1 f2 q2)
        (refine hK _ _ (Keep2.no (by kernel_rfl) (by kernel_rfl)) ?_; clear hK K)
        try simp only [Act.put, List.setIfInBounds_toArray, List.set_cons_zero, List.set_cons_succ]
        refine wpAnyK_done (by kernel_rfl) ?_ _
        go_wp2_with fail
        go_roundw
        case rel => exact ⟨k + 1, by omega, by go_num, by rw [HP2.out]; exact HO3.out.sets _ _⟩
        case measure => simp [intOf]; omega
      · have hsb : (y.st == stall) = false := by simpa using hs
        have HS := Lib.hid hs
        clear hs
        go_wp2_with fail
        go_roundw
        case rel => exact ⟨k + 1, by omega, by go_num, by rw [HP.out, if_neg HS.out]; exact HO3.out⟩
        case measure => simp [intOf]; omega
    · have HK := Lib.hid (show n ≤ k by omega)
      have HTK := Lib.hid (show l.take k = l from List.take_of_length_le (by have := HA.out; omega))
      rw [HTK.out] at HO
      generalize hu : turn l stall = u at HO
      have HU := Lib.hid hu
      clear hu
      have f0 := HO.out.sp.frozen 0
      have f1 := HO.out.sp.frozen 1
      have q0 := HO.out.sp.cell 0
      have q1 := HO.out.sp.cell 1
      have p0 := HO.out.ou.cell 0
      have p1 := HO.out.ou.cell 1
      go_wp2_with fail
      have hX9 := (HO.out.sp.set_ 0 (.int .i64 u.lo)).set_ 1 (.int .i64 u.hi)
      have hL9 := (HO.out.low.setCell (p := ⟨w.heap.size + 1, 0, none⟩) (by show w.heap.size ≤ w.heap.size + 1; omega) (.int .i64 u.lo)).setCell (p := ⟨w.heap.size + 1, 1, none⟩) (by show w.heap.size ≤ w.heap.size + 1; omega) (.int .i64 u.hi)
      have d0 := hX9.cell 0
      have d1 := hX9.cell 1
      refine bodyPost_ret (v := .agg #[.int .i64 u.lo, .int .i64 u.hi]) (by simp [results, Try.f73, go_sem, d0, d1]) rfl ?_
      exact ⟨by rw [HU.out], hL9⟩
end Go.Proofs.Ytkcdknjgjidnnaa
