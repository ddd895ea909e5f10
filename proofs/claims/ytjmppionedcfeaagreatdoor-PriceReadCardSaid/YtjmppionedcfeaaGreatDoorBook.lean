/-
  Books made of numbers.
-/
import Derived.Test.YtjmppionedcfeaaGreatDoorDie2
import Derived.Test.YtjmppionedcfeaaGreatDoorEnc
import Derived.Test.YtjmppionedcfeaaGreatDoorReg
set_option linter.unusedVariables false
set_option linter.unusedSimpArgs false
namespace Go.Proofs.YtjmppionedcfeaaGreatDoor
open Go.RowKit

theorem info_sale : (Tryz.prog.info? 59).map (fun i => (i.zero, i.size, i.bytes)) = some (some (.agg #[.int .i64 0, .int .i64 0, .int .i64 0, .int .i64 0, .int .i64 0, .int .i64 0]), 6, 48) := by kernel_rfl

/-- how things stand while BookOf works: the die d, its book in block g, its result in block r, the row of sales from base on -/
structure BookSt (w W : World) (d g r base : Nat) (st gd : Int) (A : Option Addr) (m c : Nat) (xs : List Value) : Prop where
  die : IsDie W d
  book : Blk W g 24 #[.int .i64 st, .int .i64 gd, .slice A m c]
  res : Blk W r 24 #[.int .i64 0, .int .i64 0, .slice none 0 0]
  own : W.ownsRow base 59 6 (.slice A m c) m xs
  only : w.grownBy W (some d)
  hw : w.heap.size ≤ base
  hd : d < base
  hg : g < base
  hr : r < base
  hgd : g ≠ d
  hrd : r ≠ d
  hgr : g ≠ r
  hgw : w.heap.size ≤ g
  hz : base ≤ W.heap.size
section
variable {w W W1 : World} {d g r base m c : Nat} {st gd : Int} {A : Option Addr} {xs : List Value}
theorem BookSt.toDie (h : BookSt w W d g r base st gd A m c xs) (hd1 : IsDie W1 d) (hg1 : W.grownBy W1 (some d)) : BookSt w W1 d g r base st gd A m c xs :=
  ⟨hd1, die_keep h.book hg1 h.hgd, die_keep h.res hg1 h.hrd, ownsRow_die h.own hg1 h.hd, only_trans h.only hg1, h.hw, h.hd, h.hg, h.hr, h.hgd, h.hrd, h.hgr, h.hgw, Nat.le_trans h.hz hg1.size⟩
theorem BookSt.drew (h : BookSt w W d g r base st gd A m c xs) : BookSt w W.drew d g r base st gd A m c xs := ⟨h.die, h.book, h.res, h.own, only_drew h.only, h.hw, h.hd, h.hg, h.hr, h.hgd, h.hrd, h.hgr, h.hgw, h.hz⟩
theorem BookSt.alloc (h : BookSt w W d g r base st gd A m c xs) (o : Obj) : BookSt w (W.alloc o) d g r base st gd A m c xs :=
  ⟨h.die.alloc o, h.book.alloc o, h.res.alloc o, h.own.alloc o, only_alloc h.only o, h.hw, h.hd, h.hg, h.hr, h.hgd, h.hrd, h.hgr, h.hgw, Nat.le_trans h.hz (by simp)⟩
theorem BookSt.facts (h : BookSt w W d g r base st gd A m c xs) : W.cell? ⟨g, 0, none⟩ = some (.int .i64 st) ∧ W.cell? ⟨g, 1, none⟩ = some (.int .i64 gd) ∧ W.cell? ⟨g, 2, none⟩ = some (.slice A m c) :=
  ⟨h.book.cell 0, h.book.cell 1, h.book.cell 2⟩
theorem BookSt.facts_own (h : BookSt w W d g r base st gd A m c xs) (hg1 : W.grownBy W1 (Value.ownBlock (.slice A m c))) : W1.cell? ⟨g, 0, none⟩ = some (.int .i64 st) ∧ W1.cell? ⟨g, 1, none⟩ = some (.int .i64 gd) ∧ W1.cell? ⟨g, 2, none⟩ = some (.slice A m c) := by
  have hb1 : Blk W1 g 24 #[.int .i64 st, .int .i64 gd, .slice A m c] := (own_keeps h.own hg1 h.hg (Nat.lt_of_lt_of_le h.hg h.hz)).trans h.book
  exact ⟨hb1.cell 0, hb1.cell 1, hb1.cell 2⟩
theorem BookSt.free_own (h : BookSt w W d g r base st gd A m c xs) (hg1 : W.grownBy W1 (Value.ownBlock (.slice A m c))) : W1.frozen? ⟨g, 2, none⟩ = false := by
  have hb1 : Blk W1 g 24 #[.int .i64 st, .int .i64 gd, .slice A m c] := (own_keeps h.own hg1 h.hg (Nat.lt_of_lt_of_le h.hg h.hz)).trans h.book
  exact hb1.frozen 2
/-- behind the append and the store -/
theorem BookSt.next {A' : Option Addr} {m' c' : Nat} {ys : List Value} (h : BookSt w W d g r base st gd A m c xs) (hg1 : W.grownBy W1 (Value.ownBlock (.slice A m c))) (hown : W1.ownsRow base 59 6 (.slice A' m' c') m' ys) :
    BookSt w (W1.setCell ⟨g, 2, none⟩ (.slice A' m' c')) d g r base st gd A' m' c' ys := by
  have k : ∀ b, b < base → W1.heap[b]? = W.heap[b]? := fun b hb => own_keeps h.own hg1 hb (Nat.lt_of_lt_of_le hb h.hz)
  have hb1 : Blk W1 g 24 #[.int .i64 st, .int .i64 gd, .slice A m c] := (k g h.hg).trans h.book
  have hr1 : Blk W1 r 24 #[.int .i64 0, .int .i64 0, .slice none 0 0] := (k r h.hr).trans h.res
  refine ⟨(h.die.keep (k d h.hd)).keep (Below.heap_setCell _ _ _ _ (fun e => h.hgd e.symm)), hb1.set_ 2 _, ?_, ownsRow_setCell hown h.hg _, ?_, h.hw, h.hd, h.hg, h.hr, h.hgd, h.hrd, h.hgr, h.hgw, ?_⟩
  · exact hr1.far (p := ⟨g, 2, none⟩) (fun e2 => h.hgr e2.symm) _
  · exact only_setCell (only_own h.own hg1 h.only h.hw) (.inr h.hgw) _
  · have := hg1.size
    have := h.hz
    simp [World.setCell]
    omega
end

set_option maxRecDepth 100000 in
set_option maxHeartbeats 400000 in
theorem bookOf_any (d : Nat) (ms mg : Int) (n : Nat) (w : World) (hd : IsDie w d) (h1 : 1 ≤ ms) (h2 : ms ≤ 1000) (h3 : 1 ≤ mg) (h4 : mg ≤ 1000) (h5 : n ≤ 1000) :
    Calls Tryz.prog 6 #[.pointer (some ⟨d, 0, none⟩), .int .i64 ms, .int .i64 mg, .int .i64 n] w fun e w' => ∃ (st gd : Int) (b m c : Nat) (A : Option Addr) (l : List Sale),
      (1 ≤ st ∧ st ≤ ms ∧ 1 ≤ gd ∧ gd ≤ mg ∧ m ≤ n ∧ ∀ s ∈ l, SaleOk st gd s) ∧ e = .returned (.agg #[.int .i64 st, .int .i64 gd, .slice A m c]) ∧ w.heap.size ≤ b ∧ b ≠ d ∧ Sl encS 6 w' b A m l ∧ DieTo d w w' := by
  have hz := hd.lt
  obtain ⟨i0, hi, iz0, iz1, iz2⟩ := info_parts info_sale
  go_enter Tryz.func6, Tryz.ntmps6
  go_wp2_with fail
  refine (from_any d 1 ms _ (hd.alloc _) (by omega) (by omega) (by omega) (by omega)).mono ?_
  rintro e w1 ⟨st, ⟨hs1, hs2, _⟩, rfl, hd1, hg1⟩
  have hs3 := hs2 h1
  go_wp2_with fail
  refine (from_any d 1 mg _ hd1 (by omega) (by omega) (by omega) (by omega)).mono ?_
  rintro e w2 ⟨gd, ⟨ht1, ht2, _⟩, rfl, hd2, hg2⟩
  have ht3 := ht2 h3
  have hb : Blk w2 w.heap.size 24 #[.int .i64 0, .int .i64 0, .slice none 0 0] := ((Blk.new w 24 _).grown hg1 (fun e => by injection e; omega)).grown hg2 (fun e => by injection e; omega)
  have hG2 : w.grownBy w2 (some d) := only_step hg2 (only_step hg1 (only_alloc (only_refl _ _) _) (.inl rfl)) (.inl rfl)
  have hz2 : w.heap.size < w2.heap.size := hb.lt
  have HG2 := Lib.hid hG2
  clear hg1 hg2 hG2 hs2 ht2
  go_wp2_with fail
  have hb2 := (hb.alloc (.cells #[.int .i64 st, .int .i64 gd, .slice none 0 0] 24)).alloc (.cells #[.int .i64 6, .int .i64 100, .int .i64 5000] 3)
  have hc2 := (Blk.new w2 24 #[.int .i64 st, .int .i64 gd, .slice none 0 0]).alloc (.cells #[.int .i64 6, .int .i64 100, .int .i64 5000] 3)
  refine (one_any d _ 3 3 _ [6, 100, 5000] _ ((hd2.alloc _).alloc _) (Sl.newAt _ [6, 100, 5000] _ _ (by simp)) (by omega) (by omega) (by omega)).mono ?_
  rintro e w3 ⟨gr, hgr, rfl, hd3, hg3⟩
  have hgr2 : 6 ≤ gr ∧ gr ≤ 5000 := by simp at hgr; omega
  obtain ⟨hgr3, hgr4⟩ := hgr2
  have hz3 : w2.heap.size + 2 ≤ w3.heap.size := by have := hg3.size; simpa using this
  have hb3 := (hb2.grown hg3 (fun e => by injection e; omega)).alloc (.cells #[.int .i64 6, .int .i64 30, .int .i64 2000] 3)
  have hc3 := (hc2.grown hg3 (fun e => by injection e; omega)).alloc (.cells #[.int .i64 6, .int .i64 30, .int .i64 2000] 3)
  have HG3 := Lib.hid (show w.grownBy w3 (some d) from only_step hg3 (only_alloc (only_alloc HG2.out _) _) (.inl rfl))
  clear hgr hg3 hb2 hc2 HG2
  go_wp2_with fail
  refine (one_any d _ 3 3 _ [6, 30, 2000] _ (hd3.alloc _) (Sl.newI _ [6, 30, 2000] _) (by omega) (by omega) (by have := hd3.lt; omega)).mono ?_
  rintro e w4 ⟨ce, hce, rfl, hd4, hg4⟩
  have hce2 : 6 ≤ ce ∧ ce ≤ 2000 := by simp at hce; omega
  obtain ⟨hce3, hce4⟩ := hce2
  have hb4 := hb3.grown hg4 (fun e => by injection e; omega)
  have hc4 := hc3.grown hg4 (fun e => by injection e; omega)
  have HG4 := Lib.hid (show w.grownBy w4 (some d) from only_step hg4 (only_alloc HG3.out _) (.inl rfl))
  clear hce hg4 hb3 hc3 HG3
  go_wp2_with fail
  refine (cast_any d _ _ hd4 (by omega)).mono ?_
  rintro e w5 ⟨k0, ⟨hk1, hk2, hk3⟩, rfl, hd5, hg5⟩
  have hk4 : k0 ≤ n := by by_cases h : (n : Int) + 1 < 2 <;> omega
  have hb5 := hb4.grown hg5 (fun e => by injection e; omega)
  have hc5 := hc4.grown hg5 (fun e => by injection e; omega)
  have HG5 := Lib.hid (show w.grownBy w5 (some d) from only_step hg5 HG4.out (.inl rfl))
  clear hk2 hk3 hg5 hb4 hc4 HG4
  obtain ⟨k0, rfl⟩ := Int.eq_ofNat_of_zero_le hk1
  have hk5 : k0 ≤ n := by omega
  have hz5 : w2.heap.size < w5.heap.size := hc5.lt
  go_wp2_with fail
  go_loopw [12] (fun i wr => ∃ (k m c : Nat) (A : Option Addr) (l : List Sale), i = .int .i64 k ∧ m + k = k0 ∧ m = l.length ∧ (∀ s ∈ l, SaleOk st gd s) ∧ BookSt w wr d w2.heap.size w.heap.size w5.heap.size st gd A m c (l.flatMap encS)) (fun i _ => (intOf i).toNat)
  case atStart => exact ⟨k0, 0, 0, none, [], rfl, by omega, rfl, by simp, ⟨hd5, hc5, hb5, World.ownsRow_nil _ _ _ _, HG5.out, HG5.out.size, hd5.lt, hz5, hb5.lt, by omega, by omega, by omega, by omega, Nat.le_refl _⟩⟩
  case round =>
    obtain ⟨k, m, c, A, l, rfl, hmk, hml, hok, hS⟩ := hrel
    have HOK := Lib.hid hok
    have HMK := Lib.hid hmk
    have HML := Lib.hid hml
    have hm1 : m ≤ 1000 := by omega
    have hk1000 : k ≤ 1000 := by omega
    clear hok hmk hml
    by_cases hk0 : 0 < k
    · have HK0 := Lib.hid hk0
      go_wp2_with fail
      refine wp_region_PL [1, 4, 8] (fun w' => w'.cell? ⟨w2.heap.size, 0, none⟩ = some (.int .i64 st) ∧ w'.cell? ⟨w2.heap.size, 1, none⟩ = some (.int .i64 gd) ∧ w'.cell? ⟨w2.heap.size, 2, none⟩ = some (.slice A m c)) rfl (by kernel_rfl) (hS.drew.facts) (fun hF0 => ?_)
      (refine wpAnyP_takeL (i := 0) (v := ?_) rfl (by kernel_rfl) (by kernel_rfl) (by kernel_rfl) (fun _ _ _ h => h) (by rfl) ?_ ?_; rotate_left 1; focus (intro w; go_simp; try with_reducible rfl))
      try simp only [Act.put, List.setIfInBounds_toArray, List.set_cons_zero, List.set_cons_succ]
      (refine wpAnyP_loadL (i := 1) (v := ?_) rfl (by kernel_rfl) (by kernel_rfl) (by kernel_rfl) (by rfl) (fun _ _ _ h => h) hF0 (by rfl) ?_ ?_; rotate_left 1; focus (intro w hFw; (try dsimp only at hFw); go_split_ands; go_simp; try with_reducible rfl))
      try simp only [Act.put, List.setIfInBounds_toArray, List.set_cons_zero, List.set_cons_succ]
      (refine wpAnyP_takeL (i := 2) (v := ?_) rfl (by kernel_rfl) (by kernel_rfl) (by kernel_rfl) (fun _ _ _ h => h) (by rfl) ?_ ?_; rotate_left 1; focus (intro w; go_simp; try with_reducible rfl))
      try simp only [Act.put, List.setIfInBounds_toArray, List.set_cons_zero, List.set_cons_succ]
      (refine wpAnyP_takeL (i := 3) (v := ?_) rfl (by kernel_rfl) (by kernel_rfl) (by kernel_rfl) (fun _ _ _ h => h) (by rfl) ?_ ?_; rotate_left 1; focus (intro w; go_simp; try with_reducible rfl))
      try simp only [Act.put, List.setIfInBounds_toArray, List.set_cons_zero, List.set_cons_succ]
      (refine wpAnyP_loadL (i := 4) (v := ?_) rfl (by kernel_rfl) (by kernel_rfl) (by kernel_rfl) (by rfl) (fun _ _ _ h => h) hF0 (by rfl) ?_ ?_; rotate_left 1; focus (intro w hFw; (try dsimp only at hFw); go_split_ands; go_simp; try with_reducible rfl))
      try simp only [Act.put, List.setIfInBounds_toArray, List.set_cons_zero, List.set_cons_succ]
      (refine wpAnyP_takeL (i := 6) (v := ?_) rfl (by kernel_rfl) (by kernel_rfl) (by kernel_rfl) (fun _ _ _ h => h) (by rfl) ?_ ?_; rotate_left 1; focus (intro w; go_simp; try with_reducible rfl))
      try simp only [Act.put, List.setIfInBounds_toArray, List.set_cons_zero, List.set_cons_succ]
      (refine wpAnyP_takeL (i := 7) (v := ?_) rfl (by kernel_rfl) (by kernel_rfl) (by kernel_rfl) (fun _ _ _ h => h) (by rfl) ?_ ?_; rotate_left 1; focus (intro w; go_simp; try with_reducible rfl))
      try simp only [Act.put, List.setIfInBounds_toArray, List.set_cons_zero, List.set_cons_succ]
      (refine wpAnyP_loadL (i := 8) (v := ?_) rfl (by kernel_rfl) (by kernel_rfl) (by kernel_rfl) (by rfl) (fun _ _ _ h => h) hF0 (by rfl) ?_ ?_; rotate_left 1; focus (intro w hFw; (try dsimp only at hFw); go_split_ands; go_simp; try with_reducible rfl))
      try simp only [Act.put, List.setIfInBounds_toArray, List.set_cons_zero, List.set_cons_succ]
      (refine wpAnyP_takeL (i := 10) (v := ?_) rfl (by kernel_rfl) (by kernel_rfl) (by kernel_rfl) (fun _ _ _ h => h) (by rfl) ?_ ?_; rotate_left 1; focus (intro w; go_simp; try with_reducible rfl))
      try simp only [Act.put, List.setIfInBounds_toArray, List.set_cons_zero, List.set_cons_succ]
      (refine wpAnyP_takeL (i := 11) (v := ?_) rfl (by kernel_rfl) (by kernel_rfl) (by kernel_rfl) (fun _ _ _ h => h) (by rfl) ?_ ?_; rotate_left 1; focus (intro w; go_simp; try with_reducible rfl))
      try simp only [Act.put, List.setIfInBounds_toArray, List.set_cons_zero, List.set_cons_succ]
      (refine wpAnyP_takeL (i := 13) (v := ?_) rfl (by kernel_rfl) (by kernel_rfl) (by kernel_rfl) (fun _ _ _ h => h) (by rfl) ?_ ?_; rotate_left 1; focus (intro w; go_simp; try with_reducible rfl))
      try simp only [Act.put, List.setIfInBounds_toArray, List.set_cons_zero, List.set_cons_succ]
      (refine wpAnyP_takeL (i := 14) (v := ?_) rfl (by kernel_rfl) (by kernel_rfl) (by kernel_rfl) (fun _ _ _ h => h) (by rfl) ?_ ?_; rotate_left 1; focus (intro w; go_simp; try with_reducible rfl))
      try simp only [Act.put, List.setIfInBounds_toArray, List.set_cons_zero, List.set_cons_succ]
      refine wpAnyP_step (i := 5) rfl (by kernel_rfl) (by rfl) (fun K hK => ?_)
      go_simp
      (refine (cast_any d _ _ hS.drew.die (by omega)).mono ?_; rintro e w6 ⟨q1, ⟨hq1, hq2, hq3⟩, rfl, hd6, hg6⟩; have hS6 := hS.drew.toDie hd6 hg6)
      (refine hK _ _ (hS6.facts) (fun hF1 => ?_); clear hK K hF0)
      try simp only [Act.put, List.setIfInBounds_toArray, List.set_cons_zero, List.set_cons_succ]
      refine wpAnyP_step (i := 9) rfl (by kernel_rfl) (by rfl) (fun K hK => ?_)
      go_simp
      (refine (cast_any d _ _ hS6.die (by omega)).mono ?_; rintro e w7 ⟨q2, ⟨hr1, hr2, hr3⟩, rfl, hd7, hg7⟩; have hS7 := hS6.toDie hd7 hg7)
      (refine hK _ _ (hS7.facts) (fun hF2 => ?_); clear hK K hF1)
      try simp only [Act.put, List.setIfInBounds_toArray, List.set_cons_zero, List.set_cons_succ]
      refine wpAnyP_step (i := 12) rfl (by kernel_rfl) (by rfl) (fun K hK => ?_)
      go_simp
      (refine (dspan_any d _ _ _ hS7.die (by omega) (by omega) (by omega)).mono ?_; rintro e w8 ⟨x1, x2, ⟨hx1, hx2, hx3⟩, rfl, hd8, hg8⟩; have hS8 := hS7.toDie hd8 hg8)
      (refine hK _ _ (hS8.facts) (fun hF3 => ?_); clear hK K hF2)
      try simp only [Act.put, List.setIfInBounds_toArray, List.set_cons_zero, List.set_cons_succ]
      refine wpAnyP_step (i := 15) rfl (by kernel_rfl) (by rfl) (fun K hK => ?_)
      go_simp
      (refine (dspan_any d _ _ _ hS8.die (by omega) (by omega) (by omega)).mono ?_; rintro e w9 ⟨y1, y2, ⟨hy1, hy2, hy3⟩, rfl, hd9, hg9⟩; have hS9 := hS8.toDie hd9 hg9)
      (refine hK _ _ (hS9.facts) (fun hF4 => ?_); clear hK K hF3)
      try simp only [Act.put, List.setIfInBounds_toArray, List.set_cons_zero, List.set_cons_succ]
      (refine wpAnyP_takeL (i := 16) (v := ?_) rfl (by kernel_rfl) (by kernel_rfl) (by kernel_rfl) (fun _ _ _ h => h) (by rfl) ?_ ?_; rotate_left 1; focus (intro w; go_simp; try with_reducible rfl))
      try simp only [Act.put, List.setIfInBounds_toArray, List.set_cons_zero, List.set_cons_succ]
      refine wpAnyP_step (i := 17) rfl (by kernel_rfl) (by rfl) (fun K hK => ?_)
      go_simp
      (refine hK _ _ ((hS9.alloc _).facts) (fun hF5 => ?_); clear hK K hF4)
      try simp only [Act.put, List.setIfInBounds_toArray, List.set_cons_zero, List.set_cons_succ]
      refine wpAnyP_step (i := 18) rfl (by kernel_rfl) (by rfl) (fun K hK => ?_)
      (refine wp_append_lies _ _ _ _ rfl w5.heap.size 59 i0 _ 6 48 Tryz.underlying22 hi iz0 iz1 iz2 rfl (by omega) _ m _ (by rfl) ((hS9.alloc _).own) ⟨w9.heap.size, 0, none⟩ 1 1 (encS ⟨q1, q2, x1, x2, y1, y2⟩) (by rfl) (by rfl) (World.news_of_block (heap_alloc_new w9 _)) (by simp [encS, Value.oneCell']) (by omega) (by unfold maxLen; omega) (by omega) (hS9.alloc _).hz (w9.heap.size + 1) (by simp) ?_; intro g' cap w10 hown10 hgrow hat hlt; have hf10 := (hS9.alloc _).free_own hgrow; have hc10 := ((hS9.alloc _).facts_own hgrow).2.2; have hSn := (hS9.alloc _).next hgrow hown10)
      (refine hK _ _ ((hS9.alloc _).facts_own hgrow) (fun hF6 => ?_); clear hK K hF5)
      try simp only [Act.put, List.setIfInBounds_toArray, List.set_cons_zero, List.set_cons_succ]
      (refine wpAnyP_takeL (i := 19) (v := ?_) rfl (by kernel_rfl) (by kernel_rfl) (by kernel_rfl) (fun _ _ _ h => h) (by rfl) ?_ ?_; rotate_left 1; focus (intro w; go_simp; try with_reducible rfl))
      try simp only [Act.put, List.setIfInBounds_toArray, List.set_cons_zero, List.set_cons_succ]
      refine wpAnyP_last (i := 20) rfl (by kernel_rfl) (by kernel_rfl) (by rfl) (fun K hK => ?_)
      go_simp
      (refine hK _ _ ?_; clear hK K)
      try simp only [Act.put, List.setIfInBounds_toArray, List.set_cons_zero, List.set_cons_succ]
      refine wpAnyP_done (by kernel_rfl) ?_ _
      have HS := Lib.hid hSn
      have e1 : q1 < st := by by_cases h : st < 2 <;> omega
      have e2 : q2 < gd := by by_cases h : gd < 2 <;> omega
      have e3 : x2 ≤ 5000 := by omega
      have e4 : y2 ≤ 2000 := by omega
      have HQ := Lib.hid (show SaleOk st gd ⟨q1, q2, x1, x2, y1, y2⟩ from ⟨hq1, e1, hr1, e2, hx1, hx2, e3, hy1, hy2, e4⟩)
      clear hSn hS hS6 hS7 hS8 hS9 hown10 hgrow hat hf10 hc10
      go_wp2_with fail
      go_roundw
      case rel => exact ⟨k - 1, m + 1, _, _, l ++ [⟨q1, q2, x1, x2, y1, y2⟩], by rw [show ((k - 1 : Nat) : Int) = (k : Int) - 1 from by have := HK0.out; omega], by have := HMK.out; have := HK0.out; omega, by simp [HML.out], by
          intro s hs
          rcases List.mem_append.1 hs with hs | hs
          · exact HOK.out s hs
          · simp at hs; subst hs; exact HQ.out, by simpa using HS.out⟩
      case measure => simp [intOf]; omega
    · obtain rfl : k = 0 := by omega
      have c0 := hS.book.cell 0
      have c1 := hS.book.cell 1
      have c2 := hS.book.cell 2
      have r0 := hS.res.cell 0
      have r1 := hS.res.cell 1
      have r2 := hS.res.cell 2
      have g0 := hS.res.frozen 0
      have g1 := hS.res.frozen 1
      have g2 := hS.res.frozen 2
      have hR := (((hS.res.set_ 0 (.int .i64 st)).set_ 1 (.int .i64 gd)).set_ 2 (.slice A m c))
      have q0 := hR.cell 0
      have q1 := hR.cell 1
      have q2 := hR.cell 2
      obtain ⟨b, hb, hsl⟩ := Sl.of_own encS_len HML.out hS.own
      have HS := Lib.hid hS
      have HL := Lib.hid hsl
      clear hS hsl hR
      go_wp2_with fail
      refine bodyPost_ret (v := .agg #[.int .i64 st, .int .i64 gd, .slice A m c]) (by simp [results, Tryz.results6, go_sem, q0, q1, q2]) rfl ?_
      have hh := HS.out
      refine ⟨st, gd, b, m, c, A, l, ⟨hs1, hs3, ht1, ht3, by have := HMK.out; omega, HOK.out⟩, rfl, by have := hh.hw; omega, by have := hh.hd; omega, ?_, ?_, ?_⟩
      · exact ((HL.out.setCell (fun _ => by have := hh.hr; show b ≠ w.heap.size; omega) _).setCell (fun _ => by have := hh.hr; show b ≠ w.heap.size; omega) _).setCell (fun _ => by have := hh.hr; show b ≠ w.heap.size; omega) _
      · exact hh.die.keep (by rw [Below.heap_setCell _ _ _ _ (by show d ≠ w.heap.size; omega), Below.heap_setCell _ _ _ _ (by show d ≠ w.heap.size; omega), Below.heap_setCell _ _ _ _ (by show d ≠ w.heap.size; omega)])
      · exact only_setCell (only_setCell (only_setCell hh.only (.inr (Nat.le_refl _)) _) (.inr (Nat.le_refl _)) _) (.inr (Nat.le_refl _)) _
end Go.Proofs.YtjmppionedcfeaaGreatDoor
