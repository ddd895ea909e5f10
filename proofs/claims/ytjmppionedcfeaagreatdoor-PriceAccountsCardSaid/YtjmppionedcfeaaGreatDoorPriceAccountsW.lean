/-
  The walk of the law PriceAccounts.
-/
import Derived.Test.YtjmppionedcfeaaGreatDoorNums
import Derived.Test.YtjmppionedcfeaaGreatDoorAwake
import Derived.Test.YtjmppionedcfeaaGreatDoorBook
import Derived.Test.YtjmppionedcfeaaGreatDoorOpenBook
import Derived.Test.YtjmppionedcfeaaGreatDoorBooks
import Derived.Test.YtjmppionedcfeaaGreatDoorTrip
import Derived.Test.YtjmppionedcfeaaGreatDoorReadW
import Derived.Test.YtjmppionedcfeaaGreatDoorRRead
import Derived.Test.YtjmppionedcfeaaGreatDoorRWrite
import Derived.Test.YtjmppionedcfeaaGreatDoorMar
import Derived.Test.YtjmppionedcfeaaGreatDoorReg2
import Derived.Deep.QuietTactic
import Derived.Deep.CutRange
import Derived.BigQuiet
set_option linter.unusedVariables false
set_option linter.unusedSimpArgs false
namespace Go.Proofs.YtjmppionedcfeaaGreatDoor
open Go.RowKit

/-- ahead of the loops -/
structure TA (w : World) (x : BookD) (W : World) : Prop where
  low : Below w.heap.size w W
  hd : Blk W w.heap.size 24 #[.int .i64 x.st, .int .i64 x.gd, .slice x.A x.n x.c]
theorem TA.step {w W W' : World} {x : BookD} {d : Nat} (h : TA w x W) (hg : W.grownBy W' (some d)) (hd : w.heap.size < d) : TA w x W' := ⟨Below.stepG hg h.low (Nat.le_refl _) (by omega), h.hd.grown hg (fun e => by injection e; omega)⟩
theorem TA.below {w W W' : World} {x : BookD} (h : TA w x W) (hb : Below W.heap.size W W') : TA w x W' := ⟨Below.step hb h.low (Nat.le_refl _), h.hd.below hb h.hd.lt⟩
theorem TA.alloc {w W : World} {x : BookD} (h : TA w x W) (o : Obj) : TA w x (W.alloc o) := h.below (by go_grown)
theorem TA.cells {w W : World} {x : BookD} (h : TA w x W) : W.cell? ⟨w.heap.size, 0, none⟩ = some (.int .i64 x.st) ∧ W.cell? ⟨w.heap.size, 1, none⟩ = some (.int .i64 x.gd) ∧ W.cell? ⟨w.heap.size, 2, none⟩ = some (.slice x.A x.n x.c) := ⟨h.hd.cell 0, h.hd.cell 1, h.hd.cell 2⟩
/-- the first list of texts, as it is made -/
def TG (w : World) (s : ByteArray) (W : World) (g : Nat) : Prop := Blk W g 9 #[.string s] ∧ w.heap.size ≤ g
theorem TG.below {w W W' : World} {s : ByteArray} {g : Nat} (h : TG w s W g) (hb : Below W.heap.size W W') : TG w s W' g := ⟨h.1.below hb h.1.lt, h.2⟩
theorem TG.grown {w W W' : World} {s : ByteArray} {g d : Nat} (h : TG w s W g) (hg : W.grownBy W' (some d)) (hd : g ≠ d) : TG w s W' g := ⟨h.1.grown hg (fun e => hd (by injection e)), h.2⟩
theorem TG.alloc {w W : World} {s : ByteArray} {g : Nat} (h : TG w s W g) (o : Obj) : TG w s (W.alloc o) g := ⟨h.1.alloc o, h.2⟩
theorem TA.texts {w W : World} {x : BookD} (h : TA w x W) (s : ByteArray) : TG w s (W.alloc (.cells #[.string s] 9)) W.heap.size := ⟨Blk.new _ _ _, h.low.size⟩
theorem TA.books {w W : World} {x : BookD} (_ : TA w x W) (y : BookD) : Sl encB 3 (W.alloc (.cells #[.int .i64 x.st, .int .i64 x.gd, .slice x.A x.n x.c, .int .i64 y.st, .int .i64 y.gd, .slice y.A y.n y.c] 24)) W.heap.size (some ⟨W.heap.size, 0, none⟩) 2 [x, y] := Sl.new encB_len W [x, y] 24 _ rfl
/-- how things stand in the loops -/
structure TX (w : World) (g1 : Nat) (x0 x1 : BookD) (W : World) (v : Value) (m : Nat) (txs : List (List UInt8)) : Prop where
  low : Below w.heap.size w W
  bs : Sl encB 3 W g1 (some ⟨g1, 0, none⟩) 2 [x0, x1]
  s0 : Sl encS 6 W x0.b x0.A x0.n x0.l
  s1 : Sl encS 6 W x1.b x1.A x1.n x1.l
  row : W.ownsRow w.heap.size 9 1 v m (txs.flatMap encT)
  len : m = txs.length
  ng : v.ownBlock ≠ some g1
  n0 : 0 < x0.n → v.ownBlock ≠ some x0.b
  n1 : 0 < x1.n → v.ownBlock ≠ some x1.b
theorem TX.new {w W : World} {g1 g2 : Nat} {x0 x1 : BookD} {s : ByteArray} (hM : TA w x0 W) (h0 : Sl encS 6 w x0.b x0.A x0.n x0.l) (hA : Sl encB 3 W g1 (some ⟨g1, 0, none⟩) 2 [x0, x1]) (hX : Sl encS 6 W x1.b x1.A x1.n x1.l) (hG : TG w s W g2) (hag : g1 ≠ g2) (hbg : 0 < x1.n → x1.b ≠ g2) :
    TX w g1 x0 x1 W (.slice (some ⟨g2, 0, none⟩) 1 1) 1 [s.data.toList] := by
  refine ⟨hM.low, hA, h0.old hM.low, hX, ?_, rfl, fun e => hag ?_, fun hn e => ?_, fun hn e => hbg hn ?_⟩
  · have e : ([s.data.toList] : List (List UInt8)).flatMap encT = [.string s] := by
      rw [List.flatMap_cons, List.flatMap_nil, List.append_nil, encT, bytes_back]
    rw [e]
    exact ⟨rfl, .inr ⟨g2, 1, #[.string s], rfl, hG.2, hG.1, Nat.le_refl _, by unfold maxLen; omega, rfl, rfl⟩⟩
  · have e9 : some g2 = _ := e
    injection e9 with e9
    exact e9.symm
  · have e9 : some g2 = _ := e
    injection e9 with e9
    have h1 := h0.lt hn
    have h2 := hG.2
    omega
  · have e9 : some g2 = _ := e
    injection e9 with e9
    exact e9.symm
theorem TX.below {w W W' : World} {g1 m : Nat} {x0 x1 : BookD} {v : Value} {txs : List (List UInt8)} (h : TX w g1 x0 x1 W v m txs) (hb : Below W.heap.size W W') : TX w g1 x0 x1 W' v m txs :=
  ⟨Below.step hb h.low (Nat.le_refl _), h.bs.old hb, h.s0.old hb, h.s1.old hb, ownsRow_below h.row hb (Nat.le_refl _), h.len, h.ng, h.n0, h.n1⟩
theorem TX.app {w W W' : World} {g1 m g c : Nat} {x0 x1 : BookD} {v : Value} {txs : List (List UInt8)} {y : List UInt8} (h : TX w g1 x0 x1 W v m txs)
    (hrow : W'.ownsRow w.heap.size 9 1 (.slice (some ⟨g, 0, none⟩) (m + 1) c) (m + 1) (txs.flatMap encT ++ [.string ⟨y.toArray⟩])) (hg : W.grownBy W' v.ownBlock)
    (hat : v.ownBlock = some g ∨ W.heap.size ≤ g) : TX w g1 x0 x1 W' (.slice (some ⟨g, 0, none⟩) (m + 1) c) (m + 1) (txs ++ [y]) := by
  refine ⟨below_own h.row hg h.low (Nat.le_refl _) (Nat.le_refl _), h.bs.grown hg (fun _ e => h.ng e.symm), h.s0.grown hg (fun hn e => h.n0 hn e.symm), h.s1.grown hg (fun hn e => h.n1 hn e.symm), ?_, ?_, ?_, ?_, ?_⟩
  · rw [List.flatMap_append]
    simpa [encT] using hrow
  · rw [List.length_append, List.length_singleton, h.len]
  · intro e
    rcases hat with e2 | e2
    · exact h.ng (e2.trans e)
    · have h1 := h.bs.lt (by omega)
      have e9 : some g = _ := e
      injection e9 with e9
      omega
  · intro hn e
    rcases hat with e2 | e2
    · exact h.n0 hn (e2.trans e)
    · have h1 := h.s0.lt hn
      have e9 : some g = _ := e
      injection e9 with e9
      omega
  · intro hn e
    rcases hat with e2 | e2
    · exact h.n1 hn (e2.trans e)
    · have h1 := h.s1.lt hn
      have e9 : some g = _ := e
      injection e9 with e9
      omega

theorem tail_app {k : Nat} {txs : List (List UInt8)} {y : List UInt8} (hl : k + 1 = txs.length) (h : ∀ t ∈ txs.drop 1, t.length ≤ 3000) (hy : y.length ≤ 3000) : ∀ t ∈ (txs ++ [y]).drop 1, t.length ≤ 3000 := by
  intro t ht
  rw [List.drop_append_of_le_length (by omega)] at ht
  rcases List.mem_append.1 ht with h1 | h1
  · exact h t h1
  · rw [List.mem_singleton.1 h1]; exact hy

set_option maxRecDepth 100000 in
set_option maxHeartbeats 4000000 in
theorem priceAccounts_any (st gd : Int) (b n c : Nat) (A : Option Addr) (l : List Sale) (s : ByteArray) (A9 : Option Addr) (n9 c9 : Nat) (at_ how : Int) (by_ : UInt8) (w : World)
    (hl : Sl encS 6 w b A n l) (hN : Nums w A9 n9) (ha : I64 at_) (hh : I64 how) (hT : TEnv w) :
    Calls Tryz.prog 3 #[.agg #[.int .i64 st, .int .i64 gd, .slice A n c], .string s, .slice A9 n9 c9, .int .i64 at_, .int .i64 how, .int .u8 by_.toNat] w fun e w' => e = .returned (.bool true) ∧ Below w.heap.size w w' := by
  obtain ⟨b9, l9, hl9, hw9, hn9⟩ := hN
  obtain ⟨x0, hx0⟩ : ∃ x0 : BookD, x0 = ⟨st, gd, A, n, c, b, l⟩ := ⟨_, rfl⟩
  have HW9 := Lib.hid hw9
  have HT := Lib.hid hT
  have H0 := Lib.hid (show TA w x0 (w.alloc (.cells #[.int .i64 st, .int .i64 gd, .slice A n c] 24)) from ⟨by go_grown, by rw [hx0]; exact Blk.new _ _ _⟩)
  have HL := Lib.hid (show Sl encS 6 w x0.b x0.A x0.n x0.l by rw [hx0]; exact hl)
  have HL9 := Lib.hid hl9
  have HX := Lib.hid hx0
  clear hl hl9 hw9 hT hx0
  go_enter Tryz.func3, Tryz.ntmps3
  go_upto_region 1 with fail
  go_cut [40] from 27 to 41 (fun p wx => wx = w.alloc (.cells #[.int .i64 st, .int .i64 gd, .slice A n c] 24) ∧ p = .bool (decide (60 < n) || (decide (1500 < s.size) && decide (s.size ≤ 3000))))
  case first =>
    by_cases h60 : 60 < n
    · have hb60 : decide ((60 : Int) < (n : Int)) = true := by simp; omega
      go_wp2_with fail
      go_meet
      exact ⟨rfl, by simp [h60]⟩
    · have hb60 : decide ((60 : Int) < (n : Int)) = false := by simp; omega
      by_cases h15 : 1500 < s.size
      · have hb15 : decide ((1500 : Int) < (s.size : Int)) = true := by simp; omega
        by_cases h30 : s.size ≤ 3000
        · have hb30 : decide ((s.size : Int) ≤ (3000 : Int)) = true := by simp; omega
          go_wp2_with fail
          go_meet
          exact ⟨rfl, by simp [h60, h15, h30]⟩
        · have hb30 : decide ((s.size : Int) ≤ (3000 : Int)) = false := by simp; omega
          go_wp2_with fail
          go_meet
          exact ⟨rfl, by simp [h60, h15, h30]⟩
      · have hb15 : decide ((1500 : Int) < (s.size : Int)) = false := by simp; omega
        go_wp2_with fail
        go_meet
        exact ⟨rfl, by simp [h60, h15]⟩
  case rest =>
    obtain ⟨rfl, rfl⟩ := hcut
    cases hB : (decide (60 < n) || (decide (1500 < s.size) && decide (s.size ≤ 3000)))
    · have hn60 : n ≤ 60 := by
        simp only [Bool.or_eq_false_iff, decide_eq_false_iff_not] at hB
        omega
      clear hB
      go_upto_region 3 with fail
      have hz0 : w.heap.size + 1 = (w.alloc (.cells #[.int .i64 st, .int .i64 gd, .slice A n c] 24)).heap.size := by rw [World.size_alloc]
      generalize w.alloc (.cells #[.int .i64 st, .int .i64 gd, .slice A n c] 24) = V at H0 hz0 ⊢
      go_cut [13, 14] from 42 to 49 (fun p q wx => ∃ (g1 g2 : Nat) (x1 : BookD), p = .slice (some ⟨g1, 0, none⟩) 2 2 ∧ q = .slice (some ⟨g2, 0, none⟩) 1 1 ∧ x1.n ≤ 6 ∧ TX w g1 x0 x1 wx (.slice (some ⟨g2, 0, none⟩) 1 1) 1 [s.data.toList])
      case first =>
        have hM : TA w x0 V.drew := H0.out.below (Below.refl _ V).drew
        refine wp_region_K2 [0] [] (fun W => W.cell? ⟨w.heap.size, 0, none⟩ = some (.int .i64 x0.st) ∧ W.cell? ⟨w.heap.size, 1, none⟩ = some (.int .i64 x0.gd) ∧ W.cell? ⟨w.heap.size, 2, none⟩ = some (.slice x0.A x0.n x0.c)) (fun _ => True) rfl (by kernel_rfl) (hM.cells) (trivial) (fun hF0 hG0 => ?_)
        (refine wpAnyK_loadL Keep2.refl (i := 0) (v := ?_) rfl (Keep2.left (i := 0) (by rfl)) (by kernel_rfl) (by kernel_rfl) (by kernel_rfl) (fun _ _ _ h => h) hF0 (by rfl) ?_ ?_; rotate_left 1; focus (intro w hFw; (try dsimp only at hFw); go_split_ands; go_simp; try with_reducible rfl))
        try simp only [Act.put, List.setIfInBounds_toArray, List.set_cons_zero, List.set_cons_succ]
        (refine wpAnyK_takeL Keep2.refl (i := 1) (v := ?_) rfl (by kernel_rfl) (by kernel_rfl) (by kernel_rfl) (fun _ _ _ h => h) (by rfl) ?_ ?_; rotate_left 1; focus (intro w; go_simp; try with_reducible rfl))
        try simp only [Act.put, List.setIfInBounds_toArray, List.set_cons_zero, List.set_cons_succ]
        (refine wpAnyK_takeL Keep2.refl (i := 5) (v := ?_) rfl (by kernel_rfl) (by kernel_rfl) (by kernel_rfl) (fun _ _ _ h => h) (by rfl) ?_ ?_; rotate_left 1; focus (intro w; go_simp; try with_reducible rfl))
        try simp only [Act.put, List.setIfInBounds_toArray, List.set_cons_zero, List.set_cons_succ]
        refine wpAnyK_all (rs := [2, 6]) (by kernel_rfl) (by simp) ?_
        refine List.forall_mem_cons.2 ⟨?_, List.forall_mem_cons.2 ⟨?_, fun _ h => absurd h List.not_mem_nil⟩⟩
        · refine wpOp_of rfl (by rfl) (fun K hK => ?_)
          go_simp
          (refine (dieOf_any b9 n9 c9 A9 l9 _ (HL9.out.old hM.low) hn9 HW9.out).mono ?_; rintro e w1 ⟨d, hd, rfl, hdie, hB1⟩; (try have hgd := Nat.ne_of_lt (Nat.lt_of_lt_of_le hG.1.lt hd)); have hwd : w.heap.size < d := Nat.lt_of_lt_of_le hM.hd.lt hd; (try replace hG := hG.below hB1); replace hM := hM.below hB1; clear hB1 hd)
          (refine hK _ _ ⟨⟨fun _ _ => hM.cells, fun h => absurd h (by decide)⟩, ?_⟩; clear hK K)
          (refine wpAnyK_with (F := fun W => W.cell? ⟨w.heap.size, 0, none⟩ = some (.int .i64 x0.st) ∧ W.cell? ⟨w.heap.size, 1, none⟩ = some (.int .i64 x0.gd) ∧ W.cell? ⟨w.heap.size, 2, none⟩ = some (.slice x0.A x0.n x0.c)) (hM.cells) (fun hF1 => ?_); clear hF0)
          try simp only [Act.put, List.setIfInBounds_toArray, List.set_cons_zero, List.set_cons_succ]
          refine wpAnyK_all (rs := [3, 6]) (by kernel_rfl) (by simp) ?_
          refine List.forall_mem_cons.2 ⟨?_, List.forall_mem_cons.2 ⟨?_, fun _ h => absurd h List.not_mem_nil⟩⟩
          · refine wpOp_of rfl (by rfl) (fun K hK => ?_)
            go_simp
            (refine (bookOf_any d 3 3 6 _ hdie (by omega) (by omega) (by omega) (by omega) (by omega)).mono ?_; rintro e w2 ⟨st1, gd1, b1, m1, c1, A1, l1, ⟨hs1, hs2, hg1, hg2, hm1, hok1⟩, rfl, hb1, hb1d, hX, hd2, hgr2⟩; (try have hbg : 0 < m1 → b1 ≠ _ := fun _ => Nat.ne_of_gt (Nat.lt_of_lt_of_le hG.1.lt hb1)); (try replace hG := hG.grown hgr2 hgd); replace hM := hM.step hgr2 hwd; clear hgr2 hok1 hb1)
            (refine hK _ _ ⟨⟨fun _ _ => hM.cells, fun h => absurd h (by decide)⟩, ?_⟩; clear hK K)
            (refine wpAnyK_with (F := fun W => W.cell? ⟨w.heap.size, 0, none⟩ = some (.int .i64 x0.st) ∧ W.cell? ⟨w.heap.size, 1, none⟩ = some (.int .i64 x0.gd) ∧ W.cell? ⟨w.heap.size, 2, none⟩ = some (.slice x0.A x0.n x0.c)) (hM.cells) (fun hF2 => ?_); clear hF1)
            try simp only [Act.put, List.setIfInBounds_toArray, List.set_cons_zero, List.set_cons_succ]
            refine wpAnyK_all (rs := [4, 6]) (by kernel_rfl) (by simp) ?_
            refine List.forall_mem_cons.2 ⟨?_, List.forall_mem_cons.2 ⟨?_, fun _ h => absurd h List.not_mem_nil⟩⟩
            · refine wpOp_of rfl (by rfl) (fun K hK => ?_)
              go_simp
              (have hA := hM.books ⟨st1, gd1, A1, m1, c1, b1, l1⟩; (try have hag := Nat.ne_of_gt hG.1.lt); (try simp only [World.size_drew, World.size_alloc] at hA); (try simp only [World.size_drew, World.size_alloc] at hag); (try replace hG := hG.alloc (.cells #[.int .i64 x0.st, .int .i64 x0.gd, .slice x0.A x0.n x0.c, .int .i64 st1, .int .i64 gd1, .slice A1 m1 c1] 24)); replace hX := hX.alloc (.cells #[.int .i64 x0.st, .int .i64 x0.gd, .slice x0.A x0.n x0.c, .int .i64 st1, .int .i64 gd1, .slice A1 m1 c1] 24); replace hM := hM.alloc (.cells #[.int .i64 x0.st, .int .i64 x0.gd, .slice x0.A x0.n x0.c, .int .i64 st1, .int .i64 gd1, .slice A1 m1 c1] 24))
              (refine hK _ _ ⟨Keep2.no (by kernel_rfl) (by kernel_rfl), ?_⟩; clear hK K)
              try simp only [Act.put, List.setIfInBounds_toArray, List.set_cons_zero, List.set_cons_succ]
              (refine wpAnyK_takeL Keep2.refl (i := 7) (v := ?_) rfl (by kernel_rfl) (by kernel_rfl) (by kernel_rfl) (fun _ _ _ h => h) (by rfl) ?_ ?_; rotate_left 1; focus (intro w; go_simp; try with_reducible rfl))
              try simp only [Act.put, List.setIfInBounds_toArray, List.set_cons_zero, List.set_cons_succ]
              refine wpAnyK_step (i := 6) rfl (by kernel_rfl) (by rfl) (fun K hK => ?_)
              go_simp
              (have hG := hM.texts s; (try have hgd := (Nat.ne_of_gt hd2.lt)); (try have hgd := (Nat.ne_of_gt hdie.lt)); (try have hbg : 0 < m1 → b1 ≠ _ := fun h => Nat.ne_of_lt (hX.lt h)); (try have hag := Nat.ne_of_lt (hA.lt (by omega))); (try simp only [World.size_drew, World.size_alloc] at hG); (try simp only [World.size_drew, World.size_alloc] at hag); (try simp only [World.size_drew, World.size_alloc] at hbg); (try replace hA := hA.alloc (.cells #[.string s] 9)); (try replace hX := hX.alloc (.cells #[.string s] 9)); (try replace hdie := hdie.alloc (.cells #[.string s] 9)); replace hM := hM.alloc (.cells #[.string s] 9))
              (refine hK _ _ (⟨fun _ _ => hM.cells, fun h => absurd h (by decide)⟩) ?_; clear hK K)
              (refine wpAnyK_with (F := fun W => W.cell? ⟨w.heap.size, 0, none⟩ = some (.int .i64 x0.st) ∧ W.cell? ⟨w.heap.size, 1, none⟩ = some (.int .i64 x0.gd) ∧ W.cell? ⟨w.heap.size, 2, none⟩ = some (.slice x0.A x0.n x0.c)) (hM.cells) (fun hF4 => ?_); clear hF2)
              try simp only [Act.put, List.setIfInBounds_toArray, List.set_cons_zero, List.set_cons_succ]
              (refine wpAnyK_takeL Keep2.refl (i := 8) (v := ?_) rfl (by kernel_rfl) (by kernel_rfl) (by kernel_rfl) (fun _ _ _ h => h) (by rfl) ?_ ?_; rotate_left 1; focus (intro w; go_simp; try with_reducible rfl))
              try simp only [Act.put, List.setIfInBounds_toArray, List.set_cons_zero, List.set_cons_succ]
              refine wpAnyK_done (by kernel_rfl) ?_ _
              go_wp2_with fail
              go_meet
              exact ⟨_, _, ⟨st1, gd1, A1, m1, c1, b1, l1⟩, rfl, rfl, hm1, TX.new hM HL.out hA hX hG hag hbg⟩
            · refine wpOp_of rfl (by rfl) (fun K hK => ?_)
              go_simp
              (have hG := hM.texts s; (try have hgd := (Nat.ne_of_gt hd2.lt)); (try have hgd := (Nat.ne_of_gt hdie.lt)); (try have hbg : 0 < m1 → b1 ≠ _ := fun h => Nat.ne_of_lt (hX.lt h)); (try have hag := Nat.ne_of_lt (hA.lt (by omega))); (try simp only [World.size_drew, World.size_alloc] at hG); (try simp only [World.size_drew, World.size_alloc] at hag); (try simp only [World.size_drew, World.size_alloc] at hbg); (try replace hA := hA.alloc (.cells #[.string s] 9)); (try replace hX := hX.alloc (.cells #[.string s] 9)); (try replace hdie := hdie.alloc (.cells #[.string s] 9)); replace hM := hM.alloc (.cells #[.string s] 9))
              (refine hK _ _ ⟨⟨fun _ _ => hM.cells, fun h => absurd h (by decide)⟩, ?_⟩; clear hK K)
              (refine wpAnyK_with (F := fun W => W.cell? ⟨w.heap.size, 0, none⟩ = some (.int .i64 x0.st) ∧ W.cell? ⟨w.heap.size, 1, none⟩ = some (.int .i64 x0.gd) ∧ W.cell? ⟨w.heap.size, 2, none⟩ = some (.slice x0.A x0.n x0.c)) (hM.cells) (fun hF5 => ?_); clear hF2)
              try simp only [Act.put, List.setIfInBounds_toArray, List.set_cons_zero, List.set_cons_succ]
              refine wpAnyK_step (i := 4) rfl (by kernel_rfl) (by rfl) (fun K hK => ?_)
              go_simp
              (have hA := hM.books ⟨st1, gd1, A1, m1, c1, b1, l1⟩; (try have hag := Nat.ne_of_gt hG.1.lt); (try simp only [World.size_drew, World.size_alloc] at hA); (try simp only [World.size_drew, World.size_alloc] at hag); (try replace hG := hG.alloc (.cells #[.int .i64 x0.st, .int .i64 x0.gd, .slice x0.A x0.n x0.c, .int .i64 st1, .int .i64 gd1, .slice A1 m1 c1] 24)); replace hX := hX.alloc (.cells #[.int .i64 x0.st, .int .i64 x0.gd, .slice x0.A x0.n x0.c, .int .i64 st1, .int .i64 gd1, .slice A1 m1 c1] 24); replace hM := hM.alloc (.cells #[.int .i64 x0.st, .int .i64 x0.gd, .slice x0.A x0.n x0.c, .int .i64 st1, .int .i64 gd1, .slice A1 m1 c1] 24))
              (refine hK _ _ (Keep2.no (by kernel_rfl) (by kernel_rfl)) ?_; clear hK K)
              try simp only [Act.put, List.setIfInBounds_toArray, List.set_cons_zero, List.set_cons_succ]
              (refine wpAnyK_takeL Keep2.refl (i := 7) (v := ?_) rfl (by kernel_rfl) (by kernel_rfl) (by kernel_rfl) (fun _ _ _ h => h) (by rfl) ?_ ?_; rotate_left 1; focus (intro w; go_simp; try with_reducible rfl))
              try simp only [Act.put, List.setIfInBounds_toArray, List.set_cons_zero, List.set_cons_succ]
              (refine wpAnyK_takeL Keep2.refl (i := 8) (v := ?_) rfl (by kernel_rfl) (by kernel_rfl) (by kernel_rfl) (fun _ _ _ h => h) (by rfl) ?_ ?_; rotate_left 1; focus (intro w; go_simp; try with_reducible rfl))
              try simp only [Act.put, List.setIfInBounds_toArray, List.set_cons_zero, List.set_cons_succ]
              refine wpAnyK_done (by kernel_rfl) ?_ _
              go_wp2_with fail
              go_meet
              exact ⟨_, _, ⟨st1, gd1, A1, m1, c1, b1, l1⟩, rfl, rfl, hm1, TX.new hM HL.out hA hX hG hag hbg⟩
          · refine wpOp_of rfl (by rfl) (fun K hK => ?_)
            go_simp
            (have hG := hM.texts s; (try have hgd := (Nat.ne_of_gt hd2.lt)); (try have hgd := (Nat.ne_of_gt hdie.lt)); (try have hbg : 0 < m1 → b1 ≠ _ := fun h => Nat.ne_of_lt (hX.lt h)); (try have hag := Nat.ne_of_lt (hA.lt (by omega))); (try simp only [World.size_drew, World.size_alloc] at hG); (try simp only [World.size_drew, World.size_alloc] at hag); (try simp only [World.size_drew, World.size_alloc] at hbg); (try replace hA := hA.alloc (.cells #[.string s] 9)); (try replace hX := hX.alloc (.cells #[.string s] 9)); (try replace hdie := hdie.alloc (.cells #[.string s] 9)); replace hM := hM.alloc (.cells #[.string s] 9))
            (refine hK _ _ ⟨⟨fun _ _ => hM.cells, fun h => absurd h (by decide)⟩, ?_⟩; clear hK K)
            (refine wpAnyK_with (F := fun W => W.cell? ⟨w.heap.size, 0, none⟩ = some (.int .i64 x0.st) ∧ W.cell? ⟨w.heap.size, 1, none⟩ = some (.int .i64 x0.gd) ∧ W.cell? ⟨w.heap.size, 2, none⟩ = some (.slice x0.A x0.n x0.c)) (hM.cells) (fun hF7 => ?_); clear hF1)
            try simp only [Act.put, List.setIfInBounds_toArray, List.set_cons_zero, List.set_cons_succ]
            refine wpAnyK_step (i := 3) rfl (by kernel_rfl) (by rfl) (fun K hK => ?_)
            go_simp
            (refine (bookOf_any d 3 3 6 _ hdie (by omega) (by omega) (by omega) (by omega) (by omega)).mono ?_; rintro e w2 ⟨st1, gd1, b1, m1, c1, A1, l1, ⟨hs1, hs2, hg1, hg2, hm1, hok1⟩, rfl, hb1, hb1d, hX, hd2, hgr2⟩; (try have hbg : 0 < m1 → b1 ≠ _ := fun _ => Nat.ne_of_gt (Nat.lt_of_lt_of_le hG.1.lt hb1)); (try replace hG := hG.grown hgr2 hgd); replace hM := hM.step hgr2 hwd; clear hgr2 hok1 hb1)
            (refine hK _ _ (⟨fun _ _ => hM.cells, fun h => absurd h (by decide)⟩) ?_; clear hK K)
            (refine wpAnyK_with (F := fun W => W.cell? ⟨w.heap.size, 0, none⟩ = some (.int .i64 x0.st) ∧ W.cell? ⟨w.heap.size, 1, none⟩ = some (.int .i64 x0.gd) ∧ W.cell? ⟨w.heap.size, 2, none⟩ = some (.slice x0.A x0.n x0.c)) (hM.cells) (fun hF8 => ?_); clear hF7)
            try simp only [Act.put, List.setIfInBounds_toArray, List.set_cons_zero, List.set_cons_succ]
            refine wpAnyK_step (i := 4) rfl (by kernel_rfl) (by rfl) (fun K hK => ?_)
            go_simp
            (have hA := hM.books ⟨st1, gd1, A1, m1, c1, b1, l1⟩; (try have hag := Nat.ne_of_gt hG.1.lt); (try simp only [World.size_drew, World.size_alloc] at hA); (try simp only [World.size_drew, World.size_alloc] at hag); (try replace hG := hG.alloc (.cells #[.int .i64 x0.st, .int .i64 x0.gd, .slice x0.A x0.n x0.c, .int .i64 st1, .int .i64 gd1, .slice A1 m1 c1] 24)); replace hX := hX.alloc (.cells #[.int .i64 x0.st, .int .i64 x0.gd, .slice x0.A x0.n x0.c, .int .i64 st1, .int .i64 gd1, .slice A1 m1 c1] 24); replace hM := hM.alloc (.cells #[.int .i64 x0.st, .int .i64 x0.gd, .slice x0.A x0.n x0.c, .int .i64 st1, .int .i64 gd1, .slice A1 m1 c1] 24))
            (refine hK _ _ (Keep2.no (by kernel_rfl) (by kernel_rfl)) ?_; clear hK K)
            try simp only [Act.put, List.setIfInBounds_toArray, List.set_cons_zero, List.set_cons_succ]
            (refine wpAnyK_takeL Keep2.refl (i := 7) (v := ?_) rfl (by kernel_rfl) (by kernel_rfl) (by kernel_rfl) (fun _ _ _ h => h) (by rfl) ?_ ?_; rotate_left 1; focus (intro w; go_simp; try with_reducible rfl))
            try simp only [Act.put, List.setIfInBounds_toArray, List.set_cons_zero, List.set_cons_succ]
            (refine wpAnyK_takeL Keep2.refl (i := 8) (v := ?_) rfl (by kernel_rfl) (by kernel_rfl) (by kernel_rfl) (fun _ _ _ h => h) (by rfl) ?_ ?_; rotate_left 1; focus (intro w; go_simp; try with_reducible rfl))
            try simp only [Act.put, List.setIfInBounds_toArray, List.set_cons_zero, List.set_cons_succ]
            refine wpAnyK_done (by kernel_rfl) ?_ _
            go_wp2_with fail
            go_meet
            exact ⟨_, _, ⟨st1, gd1, A1, m1, c1, b1, l1⟩, rfl, rfl, hm1, TX.new hM HL.out hA hX hG hag hbg⟩
        · refine wpOp_of rfl (by rfl) (fun K hK => ?_)
          go_simp
          (have hG := hM.texts s; (try have hgd := (Nat.ne_of_gt hd2.lt)); (try have hgd := (Nat.ne_of_gt hdie.lt)); (try have hbg : 0 < m1 → b1 ≠ _ := fun h => Nat.ne_of_lt (hX.lt h)); (try have hag := Nat.ne_of_lt (hA.lt (by omega))); (try simp only [World.size_drew, World.size_alloc] at hG); (try simp only [World.size_drew, World.size_alloc] at hag); (try simp only [World.size_drew, World.size_alloc] at hbg); (try replace hA := hA.alloc (.cells #[.string s] 9)); (try replace hX := hX.alloc (.cells #[.string s] 9)); (try replace hdie := hdie.alloc (.cells #[.string s] 9)); replace hM := hM.alloc (.cells #[.string s] 9))
          (refine hK _ _ ⟨⟨fun _ _ => hM.cells, fun h => absurd h (by decide)⟩, ?_⟩; clear hK K)
          (refine wpAnyK_with (F := fun W => W.cell? ⟨w.heap.size, 0, none⟩ = some (.int .i64 x0.st) ∧ W.cell? ⟨w.heap.size, 1, none⟩ = some (.int .i64 x0.gd) ∧ W.cell? ⟨w.heap.size, 2, none⟩ = some (.slice x0.A x0.n x0.c)) (hM.cells) (fun hF10 => ?_); clear hF0)
          try simp only [Act.put, List.setIfInBounds_toArray, List.set_cons_zero, List.set_cons_succ]
          refine wpAnyK_step (i := 2) rfl (by kernel_rfl) (by rfl) (fun K hK => ?_)
          go_simp
          (refine (dieOf_any b9 n9 c9 A9 l9 _ (HL9.out.old hM.low) hn9 HW9.out).mono ?_; rintro e w1 ⟨d, hd, rfl, hdie, hB1⟩; (try have hgd := Nat.ne_of_lt (Nat.lt_of_lt_of_le hG.1.lt hd)); have hwd : w.heap.size < d := Nat.lt_of_lt_of_le hM.hd.lt hd; (try replace hG := hG.below hB1); replace hM := hM.below hB1; clear hB1 hd)
          (refine hK _ _ (⟨fun _ _ => hM.cells, fun h => absurd h (by decide)⟩) ?_; clear hK K)
          (refine wpAnyK_with (F := fun W => W.cell? ⟨w.heap.size, 0, none⟩ = some (.int .i64 x0.st) ∧ W.cell? ⟨w.heap.size, 1, none⟩ = some (.int .i64 x0.gd) ∧ W.cell? ⟨w.heap.size, 2, none⟩ = some (.slice x0.A x0.n x0.c)) (hM.cells) (fun hF11 => ?_); clear hF10)
          try simp only [Act.put, List.setIfInBounds_toArray, List.set_cons_zero, List.set_cons_succ]
          refine wpAnyK_step (i := 3) rfl (by kernel_rfl) (by rfl) (fun K hK => ?_)
          go_simp
          (refine (bookOf_any d 3 3 6 _ hdie (by omega) (by omega) (by omega) (by omega) (by omega)).mono ?_; rintro e w2 ⟨st1, gd1, b1, m1, c1, A1, l1, ⟨hs1, hs2, hg1, hg2, hm1, hok1⟩, rfl, hb1, hb1d, hX, hd2, hgr2⟩; (try have hbg : 0 < m1 → b1 ≠ _ := fun _ => Nat.ne_of_gt (Nat.lt_of_lt_of_le hG.1.lt hb1)); (try replace hG := hG.grown hgr2 hgd); replace hM := hM.step hgr2 hwd; clear hgr2 hok1 hb1)
          (refine hK _ _ (⟨fun _ _ => hM.cells, fun h => absurd h (by decide)⟩) ?_; clear hK K)
          (refine wpAnyK_with (F := fun W => W.cell? ⟨w.heap.size, 0, none⟩ = some (.int .i64 x0.st) ∧ W.cell? ⟨w.heap.size, 1, none⟩ = some (.int .i64 x0.gd) ∧ W.cell? ⟨w.heap.size, 2, none⟩ = some (.slice x0.A x0.n x0.c)) (hM.cells) (fun hF12 => ?_); clear hF11)
          try simp only [Act.put, List.setIfInBounds_toArray, List.set_cons_zero, List.set_cons_succ]
          refine wpAnyK_step (i := 4) rfl (by kernel_rfl) (by rfl) (fun K hK => ?_)
          go_simp
          (have hA := hM.books ⟨st1, gd1, A1, m1, c1, b1, l1⟩; (try have hag := Nat.ne_of_gt hG.1.lt); (try simp only [World.size_drew, World.size_alloc] at hA); (try simp only [World.size_drew, World.size_alloc] at hag); (try replace hG := hG.alloc (.cells #[.int .i64 x0.st, .int .i64 x0.gd, .slice x0.A x0.n x0.c, .int .i64 st1, .int .i64 gd1, .slice A1 m1 c1] 24)); replace hX := hX.alloc (.cells #[.int .i64 x0.st, .int .i64 x0.gd, .slice x0.A x0.n x0.c, .int .i64 st1, .int .i64 gd1, .slice A1 m1 c1] 24); replace hM := hM.alloc (.cells #[.int .i64 x0.st, .int .i64 x0.gd, .slice x0.A x0.n x0.c, .int .i64 st1, .int .i64 gd1, .slice A1 m1 c1] 24))
          (refine hK _ _ (Keep2.no (by kernel_rfl) (by kernel_rfl)) ?_; clear hK K)
          try simp only [Act.put, List.setIfInBounds_toArray, List.set_cons_zero, List.set_cons_succ]
          (refine wpAnyK_takeL Keep2.refl (i := 7) (v := ?_) rfl (by kernel_rfl) (by kernel_rfl) (by kernel_rfl) (fun _ _ _ h => h) (by rfl) ?_ ?_; rotate_left 1; focus (intro w; go_simp; try with_reducible rfl))
          try simp only [Act.put, List.setIfInBounds_toArray, List.set_cons_zero, List.set_cons_succ]
          (refine wpAnyK_takeL Keep2.refl (i := 8) (v := ?_) rfl (by kernel_rfl) (by kernel_rfl) (by kernel_rfl) (fun _ _ _ h => h) (by rfl) ?_ ?_; rotate_left 1; focus (intro w; go_simp; try with_reducible rfl))
          try simp only [Act.put, List.setIfInBounds_toArray, List.set_cons_zero, List.set_cons_succ]
          refine wpAnyK_done (by kernel_rfl) ?_ _
          go_wp2_with fail
          go_meet
          exact ⟨_, _, ⟨st1, gd1, A1, m1, c1, b1, l1⟩, rfl, rfl, hm1, TX.new hM HL.out hA hX hG hag hbg⟩
      case rest =>
        obtain ⟨g1, g2, x1, rfl, rfl, hx1, hTX⟩ := hcut
        have HTX := Lib.hid hTX
        have HX1 := Lib.hid hx1
        have HX0 := Lib.hid (show x0.n ≤ 60 by rw [HX.out]; exact hn60)
        have HTL := Lib.hid (show ∀ y ∈ ([s.data.toList] : List (List UInt8)).drop 1, y.length ≤ 3000 by simp)
        clear hTX hx1 hn60
        generalize [s.data.toList] = txs0 at HTX HTL
        obtain ⟨i0, hi, iz0, iz1, iz2⟩ := info_parts info_string
        go_wp2_with fail
        go_loopw [14, 15] (fun v i wr => ∃ (k g c' : Nat) (txs : List (List UInt8)), k ≤ 2 ∧ i = .int .i64 k ∧ v = .slice (some ⟨g, 0, none⟩) (k + 1) c' ∧ (∀ y ∈ txs.drop 1, y.length ≤ 3000) ∧ TX w g1 x0 x1 wr (.slice (some ⟨g, 0, none⟩) (k + 1) c') (k + 1) txs) (fun _ i _ => 2 - (intOf i).toNat)
        case atStart => exact ⟨0, _, _, _, by omega, rfl, rfl, HTL.out, HTX.out⟩
        case round =>
          obtain ⟨k, g, c', txs, hk, rfl, rfl, htl, hTX⟩ := hrel
          have HT1 := Lib.hid hTX
          have HTL1 := Lib.hid htl
          clear hTX htl
          by_cases hlt : k < 2
          · have hkb : k < [x0, x1].length := hlt
            obtain ⟨o, ho, _, a0, a1, a2⟩ := HT1.out.bs.atB hkb
            obtain rfl : 0 = o := by injection ho with ho; injection ho
            simp only [Nat.zero_add] at a0 a1 a2
            have hx : Sl encS 6 wr [x0, x1][k].b [x0, x1][k].A [x0, x1][k].n [x0, x1][k].l ∧ [x0, x1][k].n ≤ 60 := by
              match k, hkb with
              | 0, _ => exact ⟨HT1.out.s0, HX0.out⟩
              | 1, _ => exact ⟨HT1.out.s1, Nat.le_trans HX1.out (by omega)⟩
            generalize [x0, x1][k] = x at a0 a1 a2 hx
            have HS := Lib.hid hx.1
            have hxn := hx.2
            have i0' : (0 : Int) ≤ (k : Int) := by omega
            have i1 : (k : Int) < 2 := by omega
            clear hx hkb ho
            go_wp2_with fail
            refine (write_any x.st x.gd x.b x.n x.c x.A x.l _ HS.out (by omega) (HT.out.old HT1.out.low).pow).mono ?_
            rintro e w4 ⟨rfl, hB4⟩
            have HB4 := Lib.hid hB4
            have HT4 := Lib.hid (HT1.out.below hB4)
            have a0' := cell_old a0 hB4
            have a1' := cell_old a1 hB4
            have a2' := cell_old a2 hB4
            clear a0 a1 a2 hB4
            go_wp2_with fail
            refine (rwrite_any x.st x.gd x.b x.n x.c x.A x.l _ (HS.out.old HB4.out) (by omega) (HT.out.old HT4.out.low).pow).mono ?_
            rintro e w5 ⟨rfl, hB5⟩
            have HT5 := Lib.hid (HT4.out.below hB5)
            have HY := Lib.hid (textOf_len x.st x.gd x.l)
            clear hB5 a0' a1' a2'
            generalize textOf x.st x.gd x.l = y at HY ⊢
            generalize check x.st x.gd x.l = ck
            go_wp2_with (at_builtin; refine wpList_append_lies _ rfl _ _ 31 rfl w.heap.size 9 i0 _ 1 16 Tryz.underlying31 hi iz0 iz1 iz2 rfl (by omega) _ (k + 1) _ (by rfl) (HT5.out.row.alloc _) ⟨w5.heap.size, 0, none⟩ 1 1 [.string ⟨y.toArray⟩] (by rfl) (by rfl) (World.news_of_block (heap_alloc_new w5 _)) (by simp [Value.oneCell']) (by omega) (by unfold maxLen; omega) (by omega) (by rw [World.size_alloc]; have := HT5.out.low.size; omega) (w5.heap.size + 1) (by simp) ?_; intro g3 cap w6 hown3 hgrow hat hlt3)
            have HT6 := Lib.hid ((HT5.out.below (by go_grown : Below w5.heap.size w5 (w5.alloc (.cells #[.string ⟨y.toArray⟩] 9)))).app hown3 hgrow (hat.imp id (fun e => by rw [e, World.size_alloc]; exact Nat.le_refl _)))
            clear hown3 hgrow hat hlt3
            go_roundw
            case rel => exact ⟨k + 1, g3, cap, _, by omega, by go_num, by go_num, tail_app HT5.out.len HTL1.out HY.out, HT6.out⟩
            case measure => simp [intOf]; omega
          · obtain rfl : k = 2 := by omega
            have hl3 : txs.length = 3 := HT1.out.len.symm
            obtain ⟨t0, t1, t2, rfl⟩ : ∃ t0 t1 t2, txs = [t0, t1, t2] := by
              match txs, hl3 with
              | [a, b, c], _ => exact ⟨a, b, c, rfl⟩
            have ht2 : t2.length ≤ 3000 := HTL1.out t2 (by simp)
            have a2 : wr.cell? ⟨g, 2, none⟩ = some (.string ⟨t2.toArray⟩) := HT1.out.row.cellAt 2 (by omega)
            go_wp2_with fail
            refine (mar_any ⟨t2.toArray⟩ at_ how by_ _ ha hh (by show t2.toArray.size ≤ 100000; simp; omega)).mono ?_
            rintro e w4 ⟨q, rfl, hq, hB4⟩
            have HT4 := Lib.hid (HT1.out.below hB4)
            clear hB4 a2 hq
            go_wp2_with (at_builtin; refine wpList_append_lies _ rfl _ _ 31 rfl w.heap.size 9 i0 _ 1 16 Tryz.underlying31 hi iz0 iz1 iz2 rfl (by omega) _ 3 _ (by rfl) (HT4.out.row.alloc _) ⟨w4.heap.size, 0, none⟩ 1 1 [.string q] (by rfl) (by rfl) (World.news_of_block (heap_alloc_new w4 _)) (by simp [Value.oneCell']) (by omega) (by unfold maxLen; omega) (by omega) (by rw [World.size_alloc]; have := HT4.out.low.size; omega) (w4.heap.size + 1) (by simp) ?_; intro g3 cap w6 hown3 hgrow hat hlt3)
            rw [← bytes_back q] at hown3
            have HT6 := Lib.hid ((HT4.out.below (by go_grown : Below w4.heap.size w4 (w4.alloc (.cells #[.string q] 9)))).app hown3 hgrow (hat.imp id (fun e => by rw [e, World.size_alloc]; exact Nat.le_refl _)))
            clear hown3 hgrow hat hlt3
            have hl4 : ([t0, t1, t2] ++ [q.data.toList]).length = 4 := rfl
            generalize [t0, t1, t2] ++ [q.data.toList] = txs4 at HT6 hl4
            have HL4 := Lib.hid hl4
            obtain ⟨b4, _, hs4⟩ := Sl.of_own encT_len HT6.out.len HT6.out.row
            have HS4 := Lib.hid hs4
            clear hl4 hs4
            go_loopw [20] (fun i wr => ∃ k : Nat, k ≤ 4 ∧ i = .int .i64 k ∧ Below w6.heap.size w6 wr) (fun i _ => 4 - (intOf i).toNat)
            case atStart => exact ⟨0, by omega, rfl, Below.refl _ _⟩
            case round =>
              obtain ⟨k, hk, rfl, hB⟩ := hrel
              have HB := Lib.hid hB
              have hzr := hB.size
              clear hB
              by_cases hlt : k < 4
              · have hkt : k < txs4.length := by rw [HL4.out]; omega
                obtain ⟨o, ho, _, a0⟩ := (HS4.out.old HB.out).atT hkt
                obtain ⟨rfl, rfl⟩ : g3 = b4 ∧ 0 = o := by injection ho with ho; injection ho with h1 h2; exact ⟨h1, h2⟩
                simp only [Nat.zero_add] at a0
                generalize txs4[k] = y at a0
                have HC := Lib.hid a0
                have i0' : (0 : Int) ≤ (k : Int) := by omega
                have i1 : (k : Int) < 4 := by omega
                clear hkt ho
                go_wp2_with fail
                refine (read_any ⟨y.toArray⟩ _ ((HT.out.old HT6.out.low).old HB.out)).mono ?_
                rintro e w7 ⟨A7, c7, b7, rfl, hS7, hB7⟩
                have hrl := readT_len y
                simp only [List.toList_toArray] at hS7 ⊢
                obtain ⟨r, hr⟩ : ∃ r, r = readT y := ⟨_, rfl⟩
                rw [← hr] at hS7 hrl ⊢
                have HR := Lib.hid hr
                have HS7 := Lib.hid (hS7.alloc (.cells #[.int .i64 r.st, .int .i64 r.gd, .slice A7 r.l.length c7] 24))
                have HB7 := Lib.hid (hB7.alloc hB7.size (.cells #[.int .i64 r.st, .int .i64 r.gd, .slice A7 r.l.length c7] 24))
                have K7 := Lib.hid (Blk.new w7 24 #[.int .i64 r.st, .int .i64 r.gd, .slice A7 r.l.length c7])
                have a7 := cell_old HC.out HB7.out
                clear hS7 hB7 hr
                go_wp2_with fail
                refine (rread_any ⟨y.toArray⟩ _).mono ?_
                rintro e w8 ⟨A8, c8, b8, rfl, hS8, hB8⟩
                simp only [List.toList_toArray] at hS8 ⊢
                rw [← HR.out] at hS8 ⊢
                have hz8 := hB8.size
                rw [World.size_alloc] at hz8
                have HS8 := Lib.hid (hS8.alloc (.cells #[.int .i64 r.st, .int .i64 r.gd, .slice A8 r.l.length c8] 24))
                have HS9 := Lib.hid ((HS7.out.old hB8).alloc (.cells #[.int .i64 r.st, .int .i64 r.gd, .slice A8 r.l.length c8] 24))
                have HB9 := Lib.hid (((HB7.out.trans (hB8.mono HB7.out.size)).alloc (by have := HB7.out.size; rw [World.size_alloc] at this; omega) (.cells #[.int .i64 r.st, .int .i64 r.gd, .slice A8 r.l.length c8] 24)))
                have K8 := Lib.hid (Blk.new w8 24 #[.int .i64 r.st, .int .i64 r.gd, .slice A8 r.l.length c8])
                have K9 := Lib.hid ((K7.out.below hB8 K7.out.lt).alloc (.cells #[.int .i64 r.st, .int .i64 r.gd, .slice A8 r.l.length c8] 24))
                have f0 := K8.out.cell 0
                have f1 := K8.out.cell 1
                have f2 := K8.out.cell 2
                have f3 := K9.out.cell 0
                have f4 := K9.out.cell 1
                have f5 := K9.out.cell 2
                clear hS8 hB8 a0 a7
                go_wp2_with fail
                refine (sameBooks_any r.st r.gd r.st r.gd b7 b8 r.l.length r.l.length c7 c8 A7 A8 r.l r.l _ HS9.out HS8.out (by omega)).mono ?_
                rw [same_true]
                rintro e wf ⟨rfl, hBf⟩
                have HBF := Lib.hid (HB9.out.trans (hBf.mono HB9.out.size))
                clear hBf f0 f1 f2 f3 f4 f5
                go_wp2_with fail
                go_roundw
                case rel => exact ⟨k + 1, by omega, by go_num, HB.out.trans (HBF.out.mono hzr)⟩
                case measure => simp [intOf]; omega
              · go_wp2_with fail
                refine (awake_any _).mono ?_
                rintro e w9 ⟨rfl, hB9⟩
                have L9 := Lib.hid (Below.step hB9 (Below.step HB.out HT6.out.low (Nat.le_refl _)) (Nat.le_refl _))
                clear hB9
                go_wp2_with fail
                go_ret
                exact ⟨rfl, L9.out⟩
    · go_wp2_with fail
      refine (awake_any _).mono ?_
      rintro e w1 ⟨rfl, hB1⟩
      have L1 := Lib.hid (Below.step hB1 H0.out.low (Nat.le_refl _))
      clear hB1
      go_wp2_with fail
      go_ret
      exact ⟨rfl, L1.out⟩
end Go.Proofs.YtjmppionedcfeaaGreatDoor
