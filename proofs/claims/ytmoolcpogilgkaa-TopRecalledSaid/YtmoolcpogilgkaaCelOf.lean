/-
  CellarOf: a cellar made of numbers may be.
-/
import Derived.Test.YtmoolcpogilgkaaCold1
import Derived.Test.YtmoolcpogilgkaaDie
import Derived.Test.YtmoolcpogilgkaaReg2
import Derived.Test.YtmoolcpogilgkaaApp
import Derived.Test.YtmoolcpogilgkaaTrArr
import Derived.Laws.Rows
import Derived.Laws.Tables
set_option linter.unusedVariables false
set_option linter.unusedSimpArgs false
namespace Go.Proofs.Ytmoolcpogilgkaa
open Go.RowKit


set_option maxHeartbeats 1000000 in
theorem dspanN_any (d : Nat) (lo hi : Int) (w : World) (hd : IsDie w d) (h1 : -1000000 ≤ lo) (h2 : lo ≤ hi) (h3 : hi ≤ 100000000) :
    Calls Try.prog 22 #[.pointer (some ⟨d, 0, none⟩), .int .i64 lo, .int .i64 hi] w fun e w' => ∃ x y : Int, (lo ≤ x ∧ x ≤ y ∧ y ≤ hi) ∧ e = .returned (.agg #[.int .i64 x, .int .i64 y]) ∧ DieTo d w w' := by
  have hz := hd.lt
  go_enter Try.func22, Try.ntmps22
  go_wp2_with fail
  refine (from_any d lo hi _ (hd.keep (Below.heap_alloc _ _ _ hz)) (by omega) (by omega) (by omega) (by omega)).mono ?_
  rintro e w1 ⟨x, ⟨hx1, hx2, _⟩, rfl, hd1, hg1⟩
  have hx3 := hx2 h2
  have hz1 := hg1.size
  simp only [World.size_alloc] at hz1
  go_wp2_with fail
  all_goals
    refine (one_any d w1.heap.size 3 3 _ [x, _, hi] _ (hd1.keep (Below.heap_alloc _ _ _ hd1.lt)) (Sl.newI w1 [x, _, hi] _) (by omega) (by omega) (by have := hd1.lt; omega)).mono ?_
    rintro e w2 ⟨m, hm, rfl, hd2, hg2⟩
    have hm2 : x ≤ m ∧ m ≤ hi := by simp at hm; omega
    obtain ⟨hm3, hm4⟩ := hm2
    go_wp2_with fail
    refine (from_any d x m _ hd2 (by omega) (by omega) (by omega) (by omega)).mono ?_
    rintro e w3 ⟨y, ⟨hy1, hy2, _⟩, rfl, hd3, hg3⟩
    have hy3 := hy2 hm3
    have hB : w.grownBy w3 (some d) := only_step hg3 (only_step hg2 (only_alloc (only_step hg1 (only_alloc (only_refl _ _) _) (.inl rfl)) _) (.inl rfl)) (.inl rfl)
    clear hm hx2 hy2
    have b1 : Blk (w.alloc (.cells #[.int .i64 0, .int .i64 0] 32)) w.heap.size 32 #[.int .i64 0, .int .i64 0] := Blk.new _ _ _
    have b2 := (((b1.grown hg1 (fun e => by injection e; omega)).alloc (.cells #[.int .i64 x, _, .int .i64 hi] 3)).grown hg2 (fun e => by injection e; omega)).grown hg3 (fun e => by injection e; omega)
    have c0 := b2.cell 0
    have c1 := b2.cell 1
    have f0 := b2.frozen 0
    have f1 := b2.frozen 1
    have hR := ((b2.set_ 0 (.int .i64 x)).set_ 1 (.int .i64 y))
    have q0 := hR.cell 0
    have q1 := hR.cell 1
    have HB := Lib.hid hB
    clear hB hg1 hg2 hg3 b1 b2 hR
    go_wp2
    refine bodyPost_ret (v := .agg #[.int .i64 x, .int .i64 y]) (by simp [results, Try.results22, go_sem, q0, q1]) rfl ?_
    refine ⟨x, y, ⟨hx1, hy1, by omega⟩, rfl, hd3.keep ?_, ?_⟩
    · rw [Below.heap_setCell _ _ _ _ (by show d ≠ w.heap.size; omega), Below.heap_setCell _ _ _ _ (by show d ≠ w.heap.size; omega)]
    · exact only_setCell (only_setCell HB.out (.inr (Nat.le_refl _)) _) (.inr (Nat.le_refl _)) _




/-- how things stand while a structure is made of numbers: the die, the structure (block g), the result's place (block r) -/
structure CSt (t : TypeId) (zs : Array Value) (w W : World) (d r g : Nat) (cs : Array Value) : Prop where
  die : IsDie W d
  cel : Blk W g t cs
  res : Blk W r t zs
  only : w.grownBy W (some d)
  hd : d < w.heap.size
  hr : w.heap.size ≤ r
  hg : r < g
section
variable {t : TypeId} {zs cs : Array Value} {w W W1 : World} {d r g : Nat}
theorem CSt.step (h : CSt t zs w W d r g cs) {row : Option Nat} (hg : W.grownBy W1 row) (hd1 : IsDie W1 d) (hr : ∀ r', row = some r' → r' = d ∨ g < r') : CSt t zs w W1 d r g cs := by
  have a1 := h.hd
  have a2 := h.hr
  have a3 := h.hg
  refine ⟨hd1, h.cel.grown hg (fun e => ?_), h.res.grown hg (fun e => ?_), ⟨hg.os.trans h.only.os, hg.tape.trans h.only.tape, hg.output.trans h.only.output, Nat.le_trans h.only.size hg.size, fun i hi hn => (hg.block i (Nat.lt_of_lt_of_le hi h.only.size) (fun e => ?_)).trans (h.only.block i hi hn)⟩, a1, a2, a3⟩
  · have := hr _ e.symm; omega
  · have := hr _ e.symm; omega
  · rcases hr _ e.symm with h2 | h2
    · exact hn (by rw [h2])
    · omega
theorem CSt.die_ (h : CSt t zs w W d r g cs) (hd1 : IsDie W1 d) (hg : W.grownBy W1 (some d)) : CSt t zs w W1 d r g cs := h.step hg hd1 (fun r e => by cases e; exact .inl rfl)
theorem CSt.drew (h : CSt t zs w W d r g cs) : CSt t zs w W.drew d r g cs := ⟨h.die, h.cel, h.res, only_drew h.only, h.hd, h.hr, h.hg⟩
theorem CSt.alloc (h : CSt t zs w W d r g cs) (o : Obj) : CSt t zs w (W.alloc o) d r g cs := ⟨h.die.alloc o, h.cel.alloc o, h.res.alloc o, only_alloc h.only o, h.hd, h.hr, h.hg⟩
theorem CSt.grown (h : CSt t zs w W d r g cs) {row : Option Nat} (hg : W.grownBy W1 row) (hr : ∀ r', row = some r' → g < r') : CSt t zs w W1 d r g cs :=
  h.step hg (h.die.keep (hg.block d h.die.lt (fun e => by have := hr d e.symm; have := h.hd; have := h.hr; have := h.hg; omega))) (fun r e => .inr (hr r e))
theorem CSt.below (h : CSt t zs w W d r g cs) (hb : Below W.heap.size W W1) : CSt t zs w W1 d r g cs :=
  ⟨h.die.keep (hb.block d h.die.lt), h.cel.below hb h.cel.lt, h.res.below hb h.res.lt, only_stepB hb h.only, h.hd, h.hr, h.hg⟩
theorem CSt.set_ (h : CSt t zs w W d r g cs) (i : Nat) (u : Value) : CSt t zs w (W.setCell ⟨g, i, none⟩ u) d r g (cs.setIfInBounds i u) := by
  have a1 := h.hd
  have a2 := h.hr
  have a3 := h.hg
  exact ⟨h.die.keep (Below.heap_setCell _ _ _ _ (by show d ≠ g; omega)), h.cel.set_ i u, h.res.far (p := ⟨g, i, none⟩) (by show r ≠ g; omega) u, only_setCell h.only (.inr (by show w.heap.size ≤ g; omega)) _, a1, a2, a3⟩
theorem CSt.hz (h : CSt t zs w W d r g cs) : g + 1 ≤ W.heap.size := h.cel.lt
end

/-- and one more structure (block G) beside a row of the call's own -/
structure CB (t t2 e : TypeId) (m : Nat) (zs : Array Value) (w W : World) (d r g B : Nat) (cs : Array Value) (v : Value) (n : Nat) (xs : List Value) (G : Nat) (bs : Array Value) : Prop where
  st : CSt t zs w W d r g cs
  o : W.ownsRow B e m v n xs
  b : Blk W G t2 bs
  own : v.ownBlock ≠ some G
  hG : g < G
  hB : g < B
section
variable {t t2 e : TypeId} {m n : Nat} {zs cs bs : Array Value} {w W W1 : World} {d r g G B : Nat} {v : Value} {xs : List Value}
theorem CB.step (h : CB t t2 e m zs w W d r g B cs v n xs G bs) (hd1 : IsDie W1 d) (hg : W.grownBy W1 (some d)) : CB t t2 e m zs w W1 d r g B cs v n xs G bs := by
  have a1 := h.st.hd
  have a2 := h.st.hr
  have a3 := h.st.hg
  have a4 := h.hG
  have a5 := h.hB
  exact ⟨h.st.die_ hd1 hg, ownsRow_die h.o hg (by omega), h.b.grown hg (fun e => by injection e; omega), h.own, h.hG, h.hB⟩
theorem CB.drew (h : CB t t2 e m zs w W d r g B cs v n xs G bs) : CB t t2 e m zs w W.drew d r g B cs v n xs G bs := ⟨h.st.drew, h.o, h.b, h.own, h.hG, h.hB⟩
theorem CB.alloc (h : CB t t2 e m zs w W d r g B cs v n xs G bs) (o : Obj) : CB t t2 e m zs w (W.alloc o) d r g B cs v n xs G bs := ⟨h.st.alloc o, h.o.alloc o, h.b.alloc o, h.own, h.hG, h.hB⟩
theorem CB.set (h : CB t t2 e m zs w W d r g B cs v n xs G bs) (i : Nat) (u : Value) : CB t t2 e m zs w (W.setCell ⟨G, i, none⟩ u) d r g B cs v n xs G (bs.setIfInBounds i u) := by
  have a1 := h.st.hd
  have a2 := h.st.hr
  have a3 := h.st.hg
  have a4 := h.hG
  have hg := (only_setCell (only_refl W G) (.inl rfl) u : W.grownBy (W.setCell ⟨G, i, none⟩ u) (some G))
  exact ⟨h.st.grown hg (fun r e => by injection e with e; omega), h.o.kept hg (by
    cases hv : v.ownBlock with
    | none => exact .inl rfl
    | some k => exact .inr (fun e => by injection e with e; exact h.own (by rw [hv, e]))), h.b.set_ i u, h.own, h.hG, h.hB⟩
theorem CB.nw (h : CB t t2 e m zs w W d r g B cs v n xs G bs) (l : List Int) (t : TypeId) : W.heap.size ≠ d ∧ Sl encI 1 (W.alloc (.cells (l.map (Value.int .i64)).toArray t)) W.heap.size (some ⟨W.heap.size, 0, none⟩) l.length l :=
  ⟨by have := h.st.die.lt; omega, Sl.newI W l t⟩
end

def CelPost (d : Nat) (w : World) (e : Ending) (w' : World) : Prop := ∃ (p : CelP) (c : CelT), CelOk c ∧ CelM w' p c ∧ e = .returned (.agg (celA p c)) ∧ w.heap.size ≤ p.bb ∧ w.heap.size ≤ p.bf ∧ w.heap.size ≤ p.br ∧ DieTo d w w'
theorem info_boxC : (Try.prog.info? 74).map (fun i => (i.zero, i.size, i.bytes)) = some (some (.agg #[.int .i64 0, .int .i64 0, .int .i64 0, .int .i64 0, .int .i64 0, .int .i64 0, .int .i64 0, .int .i64 0, .int .i64 0]), 9, 72) := by kernel_rfl
def celZ : Array Value := #[.int .i64 0, .int .i64 0, .slice none 0 0, .slice none 0 0, .slice none 0 0]

/-- what lies between block g and row B is as it was -/
def Mid (g B : Nat) (W W1 : World) : Prop := W.heap.size ≤ W1.heap.size ∧ ∀ i, g < i → i < B → i < W.heap.size → W1.heap[i]? = W.heap[i]?
theorem Sl.mid {α : Type} {enc : α → List Value} {m : Nat} {g B b n : Nat} {A : Option Addr} {l : List α} {W W1 : World} (h : Sl enc m W b A n l) (hm : Mid g B W W1) (hb : 0 < n → g < b ∧ b < B) : Sl enc m W1 b A n l :=
  h.keep (fun hn => hm.2 b (hb hn).1 (hb hn).2 (h.lt hn)) hm.1
theorem Sl.cellAt {α : Type} {enc : α → List Value} {m : Nat} {b o n : Nat} {l : List α} {W : World} (h : Sl enc m W b (some ⟨b, o, none⟩) n l) {k : Nat} (hk : k < l.length) (j : Nat) (v : Value) (hv : (enc l[k])[j]? = some v) : W.cell? ⟨b, o + k * m + j, none⟩ = some v := by
  obtain ⟨o2, ho, _, hc⟩ := h.at_ hk
  injection ho with ho
  injection ho with _ ho _
  subst ho
  exact hc j v hv

/-- a structure, a row of the call's own, and what lies between them and is only read -/
structure CR (S : World → Prop) (t e : TypeId) (m : Nat) (zs : Array Value) (w W : World) (d r g B : Nat) (cs : Array Value) (v : Value) (n : Nat) (xs : List Value) : Prop where
  st : CSt t zs w W d r g cs
  s : S W
  o : W.ownsRow B e m v n xs
  hS : ∀ W W1, Mid g B W W1 → S W → S W1
  hB : g < B
  hz : B ≤ W.heap.size
section
variable {S : World → Prop} {t e : TypeId} {m n : Nat} {zs cs : Array Value} {w W W1 : World} {d r g B : Nat} {v : Value} {xs : List Value}
theorem CR.die_ (h : CR S t e m zs w W d r g B cs v n xs) (hd1 : IsDie W1 d) (hg : W.grownBy W1 (some d)) : CR S t e m zs w W1 d r g B cs v n xs := by
  have a1 := h.st.hd
  have a2 := h.st.hr
  have a3 := h.st.hg
  have a5 := h.hB
  exact ⟨h.st.die_ hd1 hg, h.hS _ _ ⟨hg.size, fun i h1 _ h2 => hg.block i h2 (fun e => by injection e; omega)⟩ h.s, ownsRow_die h.o hg (by omega), h.hS, h.hB, Nat.le_trans h.hz hg.size⟩
theorem CR.drew (h : CR S t e m zs w W d r g B cs v n xs) : CR S t e m zs w W.drew d r g B cs v n xs := ⟨h.st.drew, h.hS W W.drew ⟨Nat.le_refl _, fun _ _ _ _ => rfl⟩ h.s, h.o, h.hS, h.hB, h.hz⟩
theorem CR.alloc (h : CR S t e m zs w W d r g B cs v n xs) (o : Obj) : CR S t e m zs w (W.alloc o) d r g B cs v n xs :=
  ⟨h.st.alloc o, h.hS _ _ ⟨by simp, fun i _ _ h2 => Below.heap_alloc _ _ _ h2⟩ h.s, h.o.alloc o, h.hS, h.hB, by have := h.hz; simp; omega⟩
theorem CR.next (h : CR S t e m zs w W d r g B cs v n xs) {v' : Value} {n' : Nat} {xs' : List Value} (hg : W.grownBy W1 v.ownBlock) (ho : W1.ownsRow B e m v' n' xs') : CR S t e m zs w W1 d r g B cs v' n' xs' := by
  have a5 := h.hB
  refine ⟨h.st.grown hg (fun r e => by have := (h.o.lt r e).1; omega), h.hS _ _ ⟨hg.size, fun i h1 h3 h2 => hg.block i h2 (fun e => ?_)⟩ h.s, ho, h.hS, h.hB, Nat.le_trans h.hz hg.size⟩
  have := (h.o.lt i e.symm).1
  omega
theorem CR.set_ (h : CR S t e m zs w W d r g B cs v n xs) (i : Nat) (u : Value) : CR S t e m zs w (W.setCell ⟨g, i, none⟩ u) d r g B (cs.setIfInBounds i u) v n xs := by
  have a5 := h.hB
  exact ⟨h.st.set_ i u, h.hS _ _ ⟨by simp [World.setCell], fun j h1 _ _ => Below.heap_setCell _ _ _ _ (by show j ≠ g; omega)⟩ h.s, ownsRow_setCell h.o (p := ⟨g, i, none⟩) a5 u, h.hS, h.hB, by have := h.hz; simpa [World.setCell] using this⟩
end

structure FilsOk (n : Nat) (l : List FilT) (hh : Int) : Prop where
  fs : ∀ f ∈ l, FilOk n f
  fo : ∀ k, (h : k + 1 < l.length) → l[k].hour ≤ l[k + 1].hour
  up : ∀ f ∈ l, f.hour ≤ hh
theorem FilsOk.nil (n : Nat) (hh : Int) : FilsOk n [] hh := ⟨by simp, fun k h => by simp at h, by simp⟩
theorem FilsOk.snoc {n : Nat} {l : List FilT} {hh h2 : Int} (h : FilsOk n l hh) {f : FilT} (hf : FilOk n f) (h1 : hh ≤ h2) (h3 : f.hour = h2) : FilsOk n (l ++ [f]) h2 := by
  refine ⟨fun g hg => ?_, fun k hk => ?_, fun g hg => ?_⟩
  · rcases List.mem_append.1 hg with hg | hg
    · exact h.fs g hg
    · rw [List.mem_singleton.1 hg]; exact hf
  · simp only [List.length_append, List.length_singleton] at hk
    by_cases hk2 : k + 1 < l.length
    · rw [List.getElem_append_left (by omega), List.getElem_append_left hk2]; exact h.fo k hk2
    · rw [List.getElem_append_left (by omega), List.getElem_append_right (by omega)]
      have := h.up l[k] (List.getElem_mem _)
      simp only [List.getElem_singleton]
      omega
  · rcases List.mem_append.1 hg with hg | hg
    · have := h.up g hg; omega
    · rw [List.mem_singleton.1 hg]; omega
structure RatesOk (l : List RateT) (a s : Int) : Prop where
  rs : ∀ r ∈ l, RateOk r
  ro : ∀ k, (h : k + 1 < l.length) → l[k].above < l[k + 1].above ∧ l[k].loss ≤ l[k + 1].loss
  up : ∀ r ∈ l, r.above < a ∧ r.loss ≤ s
theorem RatesOk.nil (a s : Int) : RatesOk [] a s := ⟨by simp, fun k h => by simp at h, by simp⟩
theorem RatesOk.snoc {l : List RateT} {a s a2 s2 : Int} (h : RatesOk l a s) {r : RateT} (hr : RateOk r) (h1 : r.above = a) (h2 : r.loss = s) (h3 : a < a2) (h4 : s ≤ s2) : RatesOk (l ++ [r]) a2 s2 := by
  refine ⟨fun g hg => ?_, fun k hk => ?_, fun g hg => ?_⟩
  · rcases List.mem_append.1 hg with hg | hg
    · exact h.rs g hg
    · rw [List.mem_singleton.1 hg]; exact hr
  · simp only [List.length_append, List.length_singleton] at hk
    by_cases hk2 : k + 1 < l.length
    · rw [List.getElem_append_left (by omega), List.getElem_append_left hk2]; exact h.ro k hk2
    · rw [List.getElem_append_left (by omega), List.getElem_append_right (by omega)]
      have := h.up l[k] (List.getElem_mem _)
      simp only [List.getElem_singleton]
      omega
  · rcases List.mem_append.1 hg with hg | hg
    · have := h.up g hg; omega
    · rw [List.mem_singleton.1 hg]; omega
theorem oneFl (x : FilT) : ∀ u ∈ encFl x, u.oneCell' = true := by simp [encFl, Value.oneCell']
theorem oneRt (x : RateT) : ∀ u ∈ encRt x, u.oneCell' = true := by simp [encRt, Value.oneCell']
theorem info_fil : (Try.prog.info? 76).map (fun i => (i.zero, i.size, i.bytes)) = some (some (.agg #[.int .i64 0, .int .i64 0, .int .i64 0]), 3, 24) := by kernel_rfl
theorem info_rate : (Try.prog.info? 78).map (fun i => (i.zero, i.size, i.bytes)) = some (some (.agg #[.int .i64 0, .int .i64 0]), 2, 16) := by kernel_rfl
theorem info_cellA : (Try.prog.info? 37).map (·.size) = some 5 := by kernel_rfl

theorem cellarOf_end {d B2 bb m c bf nf cf nr cr : Nat} {A Af Ar : Option Addr} {x y : Int} {bs : List BoxT} {fs : List FilT} {rs : List RateT} {w W : World} {g : Nat} (tmps : Array Value) (ht : tmps.getD 6 undef = .pointer (some ⟨w.heap.size, 0, none⟩))
    (hR : CR (fun W => Sl encBx 9 W bb A m bs ∧ Sl encFl 3 W bf Af nf fs) 37 78 2 celZ w W d w.heap.size g B2 #[.int .i64 x, .int .i64 y, .slice A m c, .slice Af nf cf, .slice Ar nr cr] (.slice Ar nr cr) nr (rs.flatMap encRt))
    (hn : nr = rs.length) (hOk : CelOk ⟨x, y, bs, fs, rs⟩) (hb : w.heap.size < bb ∧ w.heap.size < bf) :
    bodyPost Try.prog Try.f8 (CelPost d w) .ret { tmps := tmps, defers := [] } (W.setRow w.heap.size #[.int .i64 x, .int .i64 y, .slice A m c, .slice Af nf cf, .slice Ar nr cr]) := by
  have hdd := hR.st.hd
  have hgg := hR.st.hg
  have hBB := hR.hB
  have hr := hR.st.res.setRow #[.int .i64 x, .int .i64 y, .slice A m c, .slice Af nf cf, .slice Ar nr cr]
  refine bodyPost_ret (results_cell_row rfl _ _ w.heap.size 37 #[.int .i64 x, .int .i64 y, .slice A m c, .slice Af nf cf, .slice Ar nr cr] (0, 0) _ ht hr Try.underlying37 rfl info_cellA) rfl ?_
  obtain ⟨br, hbr, hsr⟩ := Sl.of_own (enc := encRt) encRt_len hn hR.o
  have hg := grown_setRow W w.heap.size #[.int .i64 x, .int .i64 y, .slice A m c, .slice Af nf cf, .slice Ar nr cr]
  have hd2 : IsDie (W.setRow w.heap.size #[.int .i64 x, .int .i64 y, .slice A m c, .slice Af nf cf, .slice Ar nr cr]) d := hR.st.die.keep (hg.block d hR.st.die.lt (fun e => by injection e; omega))
  refine ⟨⟨A, m, c, bb, Af, nf, cf, bf, Ar, nr, cr, br⟩, ⟨x, y, bs, fs, rs⟩, hOk, ⟨hR.s.1.grown hg (fun _ e => by injection e; omega), hR.s.2.grown hg (fun _ e => by injection e; omega), hsr.grown hg (fun _ e => by injection e; omega)⟩, rfl, by show w.heap.size ≤ bb; omega, by show w.heap.size ≤ bf; omega, by show w.heap.size ≤ br; omega, hd2, ?_⟩
  exact ⟨hg.os.trans hR.st.only.os, hg.tape.trans hR.st.only.tape, hg.output.trans hR.st.only.output, Nat.le_trans hR.st.only.size hg.size, fun i hi hn => (hg.block i (Nat.lt_of_lt_of_le hi hR.st.only.size) (fun e => by injection e; omega)).trans (hR.st.only.block i hi hn)⟩

set_option maxRecDepth 100000 in
set_option maxHeartbeats 4000000 in
theorem cellarOf_any (d B M : Nat) (w : World) (hd : IsDie w d) (hB6 : B ≤ 6) (hM20 : M ≤ 20) :
    Calls Try.prog 8 #[.pointer (some ⟨d, 0, none⟩), .int .i64 B, .int .i64 M] w (CelPost d w) := by
  obtain ⟨i0, hi, iz0, iz1, iz2⟩ := info_parts info_boxC
  have hz := hd.lt
  have HD := Lib.hid hd
  clear hd
  go_enter Try.func8, Try.ntmps8
  go_wp2_with fail
  refine (dspanN_any d (-20) 200 _ (HD.out.alloc _) (by omega) (by omega) (by omega)).mono ?_
  rintro e w1 ⟨x, y, ⟨hx1, hx2, hx3⟩, rfl, hd1, hg1⟩
  have hz1 : w.heap.size < w1.heap.size := by have := hg1.size; simp at this; omega
  have HC1 := Lib.hid (show CSt 37 celZ w (w1.alloc (.cells #[.int .i64 x, .int .i64 y, .slice none 0 0, .slice none 0 0, .slice none 0 0] 37)) d w.heap.size w1.heap.size #[.int .i64 x, .int .i64 y, .slice none 0 0, .slice none 0 0, .slice none 0 0] from
    ⟨hd1.alloc _, Blk.new w1 _ _, ((Blk.new w 37 celZ).grown hg1 (fun e => by injection e; omega)).alloc _, only_alloc (only_step hg1 (only_alloc (only_refl _ _) _) (.inl rfl)) _, hz, Nat.le_refl _, hz1⟩)
  clear hd1 hg1 HD
  go_wp2_with fail
  refine (cast_any d _ _ HC1.out.die (by omega)).mono ?_
  rintro e w2 ⟨K0, ⟨hk1, hk2, hk3⟩, rfl, hd2, hg2⟩
  have hk4 : K0 ≤ B := by by_cases h : (B : Int) + 1 < 2 <;> omega
  obtain ⟨K0, rfl⟩ := Int.eq_ofNat_of_zero_le hk1
  have HC2 := Lib.hid (HC1.out.die_ hd2 hg2)
  clear hk2 hk3 hd2 hg2 HC1
  go_wp2_with fail
  go_loopw [8] (fun i wr => ∃ (k m c : Nat) (A : Option Addr) (bs : List BoxT), i = .int .i64 k ∧ m + k = K0 ∧ m = bs.length ∧ (∀ b ∈ bs, BoxOk b ∧ b.room ≤ 500) ∧ CSt 37 celZ w wr d w.heap.size w1.heap.size #[.int .i64 x, .int .i64 y, .slice A m c, .slice none 0 0, .slice none 0 0] ∧ wr.ownsRow (w1.heap.size + 1) 74 9 (.slice A m c) m (bs.flatMap encBx)) (fun i _ => (intOf i).toNat)
  case atStart => exact ⟨K0, 0, 0, none, [], rfl, by omega, rfl, by simp, HC2.out, World.ownsRow_nil _ _ _ _⟩
  case round =>
    obtain ⟨k, m, c, A, bs, rfl, hmk, hml, hbs, hC, hown⟩ := hrel
    have HMK := Lib.hid hmk
    have HML := Lib.hid hml
    have HBS := Lib.hid hbs
    have hm6 : m ≤ 6 := by omega
    have hk6 : k ≤ 6 := by omega
    have HC := Lib.hid hC
    have HO := Lib.hid hown
    clear hmk hml hbs hC hown
    by_cases hk0 : 0 < k
    · have HK0 := Lib.hid hk0
      go_wp2_with fail
      refine (one_any d _ 2 2 _ [30, 500] _ (HC.out.die.alloc _) (Sl.newI wr [30, 500] _) (by omega) (by omega) (by have := HC.out.die.lt; omega)).mono ?_
      rintro e w3 ⟨rm, hrm, rfl, hd3, hg3⟩
      have hrm2 : 30 ≤ rm ∧ rm ≤ 500 := by simp at hrm; omega
      obtain ⟨hrm3, hrm4⟩ := hrm2
      have HC3 := Lib.hid ((HC.out.alloc _).die_ hd3 hg3)
      have HO3 := Lib.hid (ownsRow_die (HO.out.alloc _) hg3 (by omega))
      clear hrm hd3 hg3
      go_wp2_with fail
      refine (from_any d 1 rm _ HC3.out.die (by omega) (by omega) (by omega) (by omega)).mono ?_
      rintro e w4 ⟨room, ⟨hr1, hr2, _⟩, rfl, hd4, hg4⟩
      have hr3 := hr2 (by omega)
      have HC4 := Lib.hid (HC3.out.die_ hd4 hg4)
      have HO4 := Lib.hid (ownsRow_die HO3.out hg4 (by omega))
      clear hr2 hd4 hg4
      go_upto_region 6 with fail
      have hB0 : CB 37 74 74 9 celZ w (w4.alloc (.cells #[.int .i64 room, .int .i64 0, .int .i64 0, .int .i64 0, .int .i64 0, .int .i64 0, .int .i64 0, .int .i64 0, .int .i64 0] 74)) d w.heap.size w1.heap.size (w1.heap.size + 1) #[.int .i64 x, .int .i64 y, .slice A m c, .slice none 0 0, .slice none 0 0] (.slice A m c) m (bs.flatMap encBx) w4.heap.size #[.int .i64 room, .int .i64 0, .int .i64 0, .int .i64 0, .int .i64 0, .int .i64 0, .int .i64 0, .int .i64 0, .int .i64 0] :=
        ⟨HC4.out.alloc _, HO4.out.alloc _, Blk.new w4 _ _, fun e => by have := (HO4.out.lt _ e).2; omega, by have := HC4.out.hz; omega, by omega⟩
      generalize hW4 : (w4.alloc (.cells #[.int .i64 room, .int .i64 0, .int .i64 0, .int .i64 0, .int .i64 0, .int .i64 0, .int .i64 0, .int .i64 0, .int .i64 0] 74)) = W4 at hB0 ⊢
      generalize hG : w4.heap.size = G at hB0 ⊢
      have HB0 := Lib.hid hB0
      clear hW4 hG hB0 HC3 HC4 HO3 HO4
      go_cut [] from 23 to 66 (fun wx => ∃ a1 a2 a3 a4 : Int, (0 ≤ a1 ∧ a1 ≤ a2 ∧ a2 ≤ room) ∧ (0 ≤ a3 ∧ a3 ≤ a4 ∧ a4 ≤ 1000) ∧ CB 37 74 74 9 celZ w wx d w.heap.size w1.heap.size (w1.heap.size + 1) #[.int .i64 x, .int .i64 y, .slice A m c, .slice none 0 0, .slice none 0 0] (.slice A m c) m (bs.flatMap encBx) G #[.int .i64 room, .int .i64 a1, .int .i64 a2, .int .i64 a3, .int .i64 a4, .int .i64 0, .int .i64 0, .int .i64 0, .int .i64 0])
      case first =>
        have hB := HB0.out.drew
        have HQ1 := Lib.hid (show IntKind.i64.wrap (room.tdiv 4) = room / 4 from by rw [Int.tdiv_eq_ediv_of_nonneg (by omega)]; exact IntWalk.i64_in _ (by omega))
        have HQ2 := Lib.hid (show IntKind.i64.wrap (1 + room / 4) = 1 + room / 4 from IntWalk.i64_in _ (by omega))
        refine wp_region_K2 [2, 7] [] (fun W => W.cell? ⟨G, 0, none⟩ = some (.int .i64 room)) (fun _ => True) rfl (by kernel_rfl) (hB.b.cell 0) (trivial) (fun hF0 hG0 => ?_)
        (refine wpAnyK_takeL Keep2.refl (i := 0) (v := ?_) rfl (by kernel_rfl) (by kernel_rfl) (by kernel_rfl) (fun _ _ _ h => h) (by rfl) ?_ ?_; rotate_left 1; focus (intro w; go_simp; try with_reducible rfl))
        try simp only [Act.put, List.setIfInBounds_toArray, List.set_cons_zero, List.set_cons_succ]
        (refine wpAnyK_takeL Keep2.refl (i := 1) (v := ?_) rfl (by kernel_rfl) (by kernel_rfl) (by kernel_rfl) (fun _ _ _ h => h) (by rfl) ?_ ?_; rotate_left 1; focus (intro w; go_simp; try with_reducible rfl))
        try simp only [Act.put, List.setIfInBounds_toArray, List.set_cons_zero, List.set_cons_succ]
        (refine wpAnyK_loadL Keep2.refl (i := 2) (v := ?_) rfl (Keep2.left (i := 2) (by rfl)) (by kernel_rfl) (by kernel_rfl) (by kernel_rfl) (fun _ _ _ h => h) hF0 (by rfl) ?_ ?_; rotate_left 1; focus (intro w hFw; (try dsimp only at hFw); go_split_ands; go_simp; try with_reducible rfl))
        try simp only [Act.put, List.setIfInBounds_toArray, List.set_cons_zero, List.set_cons_succ]
        (refine wpAnyK_takeL Keep2.refl (i := 4) (v := ?_) rfl (by kernel_rfl) (by kernel_rfl) (by kernel_rfl) (fun _ _ _ h => h) (by rfl) ?_ ?_; rotate_left 1; focus (intro w; go_simp; try with_reducible rfl))
        try simp only [Act.put, List.setIfInBounds_toArray, List.set_cons_zero, List.set_cons_succ]
        (refine wpAnyK_takeL Keep2.refl (i := 5) (v := ?_) rfl (by kernel_rfl) (by kernel_rfl) (by kernel_rfl) (fun _ _ _ h => h) (by rfl) ?_ ?_; rotate_left 1; focus (intro w; go_simp; try with_reducible rfl))
        try simp only [Act.put, List.setIfInBounds_toArray, List.set_cons_zero, List.set_cons_succ]
        (refine wpAnyK_takeL Keep2.refl (i := 6) (v := ?_) rfl (by kernel_rfl) (by kernel_rfl) (by kernel_rfl) (fun _ _ _ h => h) (by rfl) ?_ ?_; rotate_left 1; focus (intro w; go_simp; try with_reducible rfl))
        try simp only [Act.put, List.setIfInBounds_toArray, List.set_cons_zero, List.set_cons_succ]
        (refine wpAnyK_loadL Keep2.refl (i := 7) (v := ?_) rfl (Keep2.left (i := 7) (by rfl)) (by kernel_rfl) (by kernel_rfl) (by kernel_rfl) (fun _ _ _ h => h) hF0 (by rfl) ?_ ?_; rotate_left 1; focus (intro w hFw; (try dsimp only at hFw); go_split_ands; go_simp; try with_reducible rfl))
        try simp only [Act.put, List.setIfInBounds_toArray, List.set_cons_zero, List.set_cons_succ]
        (refine wpAnyK_takeL Keep2.refl (i := 8) (v := ?_) rfl (by kernel_rfl) (by kernel_rfl) (by kernel_rfl) (fun _ _ _ h => h) (by rfl) ?_ ?_; rotate_left 1; focus (intro w; go_simp; (first | (rw [HQ1.out]) | (with_reducible rfl))))
        try simp only [Act.put, List.setIfInBounds_toArray, List.set_cons_zero, List.set_cons_succ]
        (refine wpAnyK_takeL Keep2.refl (i := 9) (v := ?_) rfl (by kernel_rfl) (by kernel_rfl) (by kernel_rfl) (fun _ _ _ h => h) (by rfl) ?_ ?_; rotate_left 1; focus (intro w; go_simp; (first | (rw [HQ2.out]) | (with_reducible rfl))))
        try simp only [Act.put, List.setIfInBounds_toArray, List.set_cons_zero, List.set_cons_succ]
        refine wpAnyK_all (rs := [3, 10]) (by kernel_rfl) (by simp) ?_
        refine List.forall_mem_cons.2 ⟨?_, List.forall_mem_cons.2 ⟨?_, fun _ h => absurd h List.not_mem_nil⟩⟩
        · refine wpOp_of rfl (by rfl) (fun K hK => ?_)
          go_simp
          (refine (dspanN_any d 0 room _ hB.st.die (by omega) (by omega) (by omega)).mono ?_; rintro e w6 ⟨x1, y1, ⟨hx1, hx2, hx3⟩, rfl, hd6, hg6⟩; (try replace hS := hS.grown hg6 (fun _ e => by injection e with e; exact hHd e)); replace hB := hB.step hd6 hg6; clear hd6 hg6)
          (refine hK _ _ ⟨⟨fun _ _ => hB.b.cell 0, fun h => absurd h (by decide)⟩, ?_⟩; clear hK K)
          (refine wpAnyK_with (F := fun W => W.cell? ⟨G, 0, none⟩ = some (.int .i64 room)) (hB.b.cell 0) (fun hF1 => ?_); clear hF0)
          try simp only [Act.put, List.setIfInBounds_toArray, List.set_cons_zero, List.set_cons_succ]
          (refine wpAnyK_takeL Keep2.refl (i := 13) (v := ?_) rfl (by kernel_rfl) (by kernel_rfl) (by kernel_rfl) (fun _ _ _ h => h) (by rfl) ?_ ?_; rotate_left 1; focus (intro w; go_simp; try with_reducible rfl))
          try simp only [Act.put, List.setIfInBounds_toArray, List.set_cons_zero, List.set_cons_succ]
          refine wpAnyK_step (i := 10) rfl (by kernel_rfl) (by rfl) (fun K hK => ?_)
          go_simp
          (obtain ⟨hHd, hS⟩ := hB.nw [2, 1 + room / 4] 3; replace hB := hB.alloc (.cells #[.int .i64 2, .int .i64 (1 + room / 4)] 3))
          (refine hK _ _ (⟨fun _ _ => hB.b.cell 0, fun h => absurd h (by decide)⟩) ?_; clear hK K)
          (refine wpAnyK_with (F := fun W => W.cell? ⟨G, 0, none⟩ = some (.int .i64 room)) (hB.b.cell 0) (fun hF2 => ?_); clear hF1)
          try simp only [Act.put, List.setIfInBounds_toArray, List.set_cons_zero, List.set_cons_succ]
          refine wpAnyK_step (i := 11) rfl (by kernel_rfl) (by rfl) (fun K hK => ?_)
          go_simp
          (refine (one_any d _ 2 2 _ [2, 1 + room / 4] _ hB.st.die hS (by omega) (by omega) hHd).mono ?_; rintro e w8 ⟨mm, hm, rfl, hd8, hg8⟩; replace hB := hB.step hd8 hg8; have hmm : 0 ≤ mm ∧ mm ≤ 1000 := (by simp at hm; omega); clear hd8 hg8 hm)
          (refine hK _ _ (⟨fun _ _ => hB.b.cell 0, fun h => absurd h (by decide)⟩) ?_; clear hK K)
          (refine wpAnyK_with (F := fun W => W.cell? ⟨G, 0, none⟩ = some (.int .i64 room)) (hB.b.cell 0) (fun hF3 => ?_); clear hF2)
          try simp only [Act.put, List.setIfInBounds_toArray, List.set_cons_zero, List.set_cons_succ]
          refine wpAnyK_step (i := 12) rfl (by kernel_rfl) (by rfl) (fun K hK => ?_)
          go_simp
          (refine (dspanN_any d 0 mm _ hB.st.die (by omega) (by omega) (by omega)).mono ?_; rintro e w9 ⟨x2, y2, ⟨hx4, hx5, hx6⟩, rfl, hd9, hg9⟩; replace hB := hB.step hd9 hg9; clear hd9 hg9)
          (refine hK _ _ (⟨fun _ _ => hB.b.cell 0, fun h => absurd h (by decide)⟩) ?_; clear hK K)
          (refine wpAnyK_with (F := fun W => W.cell? ⟨G, 0, none⟩ = some (.int .i64 room)) (hB.b.cell 0) (fun hF4 => ?_); clear hF3)
          try simp only [Act.put, List.setIfInBounds_toArray, List.set_cons_zero, List.set_cons_succ]
          refine wpAnyK_step (i := 14) rfl (by kernel_rfl) (by rfl) (fun K hK => ?_)
          go_simp
          (have f1 := hB.b.frozen 1; have f2 := hB.b.frozen 2; have c1 := hB.b.cell 1; have c2 := hB.b.cell 2; go_simp; clear f1 f2 c1 c2; have hB2 := (hB.set 1 (.int .i64 x1)).set 2 (.int .i64 y1))
          (refine hK _ _ (Keep2.no (by kernel_rfl) (by kernel_rfl)) ?_; clear hK K)
          try simp only [Act.put, List.setIfInBounds_toArray, List.set_cons_zero, List.set_cons_succ]
          (refine wpAnyK_takeL Keep2.refl (i := 15) (v := ?_) rfl (by kernel_rfl) (by kernel_rfl) (by kernel_rfl) (fun _ _ _ h => h) (by rfl) ?_ ?_; rotate_left 1; focus (intro w; go_simp; try with_reducible rfl))
          try simp only [Act.put, List.setIfInBounds_toArray, List.set_cons_zero, List.set_cons_succ]
          refine wpAnyK_step (i := 16) rfl (by kernel_rfl) (by rfl) (fun K hK => ?_)
          go_simp
          (have f1 := hB.b.frozen 3; have f2 := hB.b.frozen 4; have c1 := hB.b.cell 3; have c2 := hB.b.cell 4; go_simp; clear f1 f2 c1 c2; have hB3 := (hB2.set 3 (.int .i64 x2)).set 4 (.int .i64 y2))
          (refine hK _ _ (Keep2.no (by kernel_rfl) (by kernel_rfl)) ?_; clear hK K)
          try simp only [Act.put, List.setIfInBounds_toArray, List.set_cons_zero, List.set_cons_succ]
          refine wpAnyK_done (by kernel_rfl) ?_ _
          go_wp2_with fail
          go_meet
          exact ⟨x1, y1, x2, y2, ⟨hx1, hx2, hx3⟩, ⟨hx4, hx5, by omega⟩, hB3⟩
        · refine wpOp_of rfl (by rfl) (fun K hK => ?_)
          go_simp
          (obtain ⟨hHd, hS⟩ := hB.nw [2, 1 + room / 4] 3; replace hB := hB.alloc (.cells #[.int .i64 2, .int .i64 (1 + room / 4)] 3))
          (refine hK _ _ ⟨⟨fun _ _ => hB.b.cell 0, fun h => absurd h (by decide)⟩, ?_⟩; clear hK K)
          (refine wpAnyK_with (F := fun W => W.cell? ⟨G, 0, none⟩ = some (.int .i64 room)) (hB.b.cell 0) (fun hF7 => ?_); clear hF0)
          try simp only [Act.put, List.setIfInBounds_toArray, List.set_cons_zero, List.set_cons_succ]
          refine wpAnyK_step (i := 3) rfl (by kernel_rfl) (by rfl) (fun K hK => ?_)
          go_simp
          (refine (dspanN_any d 0 room _ hB.st.die (by omega) (by omega) (by omega)).mono ?_; rintro e w6 ⟨x1, y1, ⟨hx1, hx2, hx3⟩, rfl, hd6, hg6⟩; (try replace hS := hS.grown hg6 (fun _ e => by injection e with e; exact hHd e)); replace hB := hB.step hd6 hg6; clear hd6 hg6)
          (refine hK _ _ (⟨fun _ _ => hB.b.cell 0, fun h => absurd h (by decide)⟩) ?_; clear hK K)
          (refine wpAnyK_with (F := fun W => W.cell? ⟨G, 0, none⟩ = some (.int .i64 room)) (hB.b.cell 0) (fun hF8 => ?_); clear hF7)
          try simp only [Act.put, List.setIfInBounds_toArray, List.set_cons_zero, List.set_cons_succ]
          (refine wpAnyK_takeL Keep2.refl (i := 13) (v := ?_) rfl (by kernel_rfl) (by kernel_rfl) (by kernel_rfl) (fun _ _ _ h => h) (by rfl) ?_ ?_; rotate_left 1; focus (intro w; go_simp; try with_reducible rfl))
          try simp only [Act.put, List.setIfInBounds_toArray, List.set_cons_zero, List.set_cons_succ]
          refine wpAnyK_step (i := 11) rfl (by kernel_rfl) (by rfl) (fun K hK => ?_)
          go_simp
          (refine (one_any d _ 2 2 _ [2, 1 + room / 4] _ hB.st.die hS (by omega) (by omega) hHd).mono ?_; rintro e w8 ⟨mm, hm, rfl, hd8, hg8⟩; replace hB := hB.step hd8 hg8; have hmm : 0 ≤ mm ∧ mm ≤ 1000 := (by simp at hm; omega); clear hd8 hg8 hm)
          (refine hK _ _ (⟨fun _ _ => hB.b.cell 0, fun h => absurd h (by decide)⟩) ?_; clear hK K)
          (refine wpAnyK_with (F := fun W => W.cell? ⟨G, 0, none⟩ = some (.int .i64 room)) (hB.b.cell 0) (fun hF9 => ?_); clear hF8)
          try simp only [Act.put, List.setIfInBounds_toArray, List.set_cons_zero, List.set_cons_succ]
          refine wpAnyK_step (i := 12) rfl (by kernel_rfl) (by rfl) (fun K hK => ?_)
          go_simp
          (refine (dspanN_any d 0 mm _ hB.st.die (by omega) (by omega) (by omega)).mono ?_; rintro e w9 ⟨x2, y2, ⟨hx4, hx5, hx6⟩, rfl, hd9, hg9⟩; replace hB := hB.step hd9 hg9; clear hd9 hg9)
          (refine hK _ _ (⟨fun _ _ => hB.b.cell 0, fun h => absurd h (by decide)⟩) ?_; clear hK K)
          (refine wpAnyK_with (F := fun W => W.cell? ⟨G, 0, none⟩ = some (.int .i64 room)) (hB.b.cell 0) (fun hF10 => ?_); clear hF9)
          try simp only [Act.put, List.setIfInBounds_toArray, List.set_cons_zero, List.set_cons_succ]
          refine wpAnyK_step (i := 14) rfl (by kernel_rfl) (by rfl) (fun K hK => ?_)
          go_simp
          (have f1 := hB.b.frozen 1; have f2 := hB.b.frozen 2; have c1 := hB.b.cell 1; have c2 := hB.b.cell 2; go_simp; clear f1 f2 c1 c2; have hB2 := (hB.set 1 (.int .i64 x1)).set 2 (.int .i64 y1))
          (refine hK _ _ (Keep2.no (by kernel_rfl) (by kernel_rfl)) ?_; clear hK K)
          try simp only [Act.put, List.setIfInBounds_toArray, List.set_cons_zero, List.set_cons_succ]
          (refine wpAnyK_takeL Keep2.refl (i := 15) (v := ?_) rfl (by kernel_rfl) (by kernel_rfl) (by kernel_rfl) (fun _ _ _ h => h) (by rfl) ?_ ?_; rotate_left 1; focus (intro w; go_simp; try with_reducible rfl))
          try simp only [Act.put, List.setIfInBounds_toArray, List.set_cons_zero, List.set_cons_succ]
          refine wpAnyK_step (i := 16) rfl (by kernel_rfl) (by rfl) (fun K hK => ?_)
          go_simp
          (have f1 := hB.b.frozen 3; have f2 := hB.b.frozen 4; have c1 := hB.b.cell 3; have c2 := hB.b.cell 4; go_simp; clear f1 f2 c1 c2; have hB3 := (hB2.set 3 (.int .i64 x2)).set 4 (.int .i64 y2))
          (refine hK _ _ (Keep2.no (by kernel_rfl) (by kernel_rfl)) ?_; clear hK K)
          try simp only [Act.put, List.setIfInBounds_toArray, List.set_cons_zero, List.set_cons_succ]
          refine wpAnyK_done (by kernel_rfl) ?_ _
          go_wp2_with fail
          go_meet
          exact ⟨x1, y1, x2, y2, ⟨hx1, hx2, hx3⟩, ⟨hx4, hx5, by omega⟩, hB3⟩
      case rest =>
        obtain ⟨a1, a2, a3, a4, ⟨ha1, ha2, ha3⟩, ⟨ha4, ha5, ha6⟩, hB⟩ := hcut
        have f5 := hB.b.frozen 5
        have f6 := hB.b.frozen 6
        have c5 := hB.b.cell 5
        have c6 := hB.b.cell 6
        have HB := Lib.hid hB
        clear hB f5 f6 c5 c6
        go_wp2_with fail
        refine (dspanN_any d (-50) 30 _ HB.out.st.die (by omega) (by omega) (by omega)).mono ?_
        rintro e w5 ⟨b1, b2, ⟨hb1, hb2, hb3⟩, rfl, hd5, hg5⟩
        have hB5 := HB.out.step hd5 hg5
        have f5 := hB5.b.frozen 5
        have f6 := hB5.b.frozen 6
        have c5 := hB5.b.cell 5
        have c6 := hB5.b.cell 6
        have HB6 := Lib.hid ((hB5.set 5 (.int .i64 b1)).set 6 (.int .i64 b2))
        clear hd5 hg5 hB5 HB HB0
        go_upto_region 8 with fail
        clear f5 f6 c5 c6
        generalize (w5.setCell ⟨G, 5, none⟩ (.int .i64 b1)).setCell ⟨G, 6, none⟩ (.int .i64 b2) = W6 at HB6 ⊢
        have c5 := HB6.out.b.cell 5
        have c6 := HB6.out.b.cell 6
        go_wp2_with fail
        refine (dspanN_any d b2 (b2 + 120) _ HB6.out.st.die (by omega) (by omega) (by omega)).mono ?_
        rintro e w7 ⟨b3, b4, ⟨hb4, hb5, hb6⟩, rfl, hd7, hg7⟩
        clear c5 c6
        have hB7 := HB6.out.step hd7 hg7
        have f5 := hB7.b.frozen 7
        have f6 := hB7.b.frozen 8
        have c5 := hB7.b.cell 7
        have c6 := hB7.b.cell 8
        have HB8 := Lib.hid ((hB7.set 7 (.int .i64 b3)).set 8 (.int .i64 b4))
        clear hd7 hg7 hB7 HB6
        go_upto_region 9 with fail
        clear f5 f6 c5 c6
        generalize (w7.setCell ⟨G, 7, none⟩ (.int .i64 b3)).setCell ⟨G, 8, none⟩ (.int .i64 b4) = W8 at HB8 ⊢
        have HB8 := Lib.hid (show CB 37 74 74 9 celZ w W8 d w.heap.size w1.heap.size (w1.heap.size + 1) #[.int .i64 x, .int .i64 y, .slice A m c, .slice none 0 0, .slice none 0 0] (.slice A m c) m (bs.flatMap encBx) G #[.int .i64 room, .int .i64 a1, .int .i64 a2, .int .i64 a3, .int .i64 a4, .int .i64 b1, .int .i64 b2, .int .i64 b3, .int .i64 b4] from HB8.out)
        have g2 := HB8.out.st.cel.cell 2
        have e0 := HB8.out.b.cell 0
        have e1 := HB8.out.b.cell 1
        have e2 := HB8.out.b.cell 2
        have e3 := HB8.out.b.cell 3
        have e4 := HB8.out.b.cell 4
        have e5 := HB8.out.b.cell 5
        have e6 := HB8.out.b.cell 6
        have e7 := HB8.out.b.cell 7
        have e8 := HB8.out.b.cell 8
        have HS8 := Lib.hid (Sl.new encBx_len W8 [(⟨room, a1, a2, a3, a4, b1, b2, b3, b4⟩ : BoxT)] 74 #[.int .i64 room, .int .i64 a1, .int .i64 a2, .int .i64 a3, .int .i64 a4, .int .i64 b1, .int .i64 b2, .int .i64 b3, .int .i64 b4] rfl)
        have HB9 := Lib.hid (HB8.out.alloc (.cells #[.int .i64 room, .int .i64 a1, .int .i64 a2, .int .i64 a3, .int .i64 a4, .int .i64 b1, .int .i64 b2, .int .i64 b3, .int .i64 b4] 74))
        have hz8 : w1.heap.size + 1 ≤ W8.heap.size := HB8.out.st.hz
        go_wp2_with (at_builtin; refine wpList_append_sl rfl _ _ 33 rfl (w1.heap.size + 1) 74 i0 _ 72 Try.underlying33 hi iz0 iz1 iz2 (by kernel_rfl) (by omega) encBx_len _ m _ rfl HB9.out.o W8.heap.size _ 1 1 [(⟨room, a1, a2, a3, a4, b1, b2, b3, b4⟩ : BoxT)] rfl HS8.out (fun x => by simp [encBx, Value.oneCell']) (by unfold maxLen; omega) (by omega) (by simp; omega) ?_; intro A1 c1 w9 hown9 hgrow9 _; have HO9 := Lib.hid hown9; have hn9 := HB9.out.st.grown hgrow9 (fun r e => by have := (HB9.out.o.lt r e).1; omega); have f2 := hn9.cel.frozen 2; have d2 := hn9.cel.cell 2; have HN9 := Lib.hid hn9; clear hown9 hgrow9 hn9)
        have HNX := Lib.hid (HN9.out.set_ 2 (.slice A1 (m + 1) c1))
        have HOX := Lib.hid (ownsRow_setCell HO9.out (p := ⟨w1.heap.size, 2, none⟩) (by show w1.heap.size < w1.heap.size + 1; omega) (.slice A1 (m + 1) c1))
        clear f2 d2 e0 e1 e2 e3 e4 e5 e6 e7 e8 g2
        go_roundw
        case rel =>
          refine ⟨k - 1, m + 1, c1, A1, bs ++ [⟨room, a1, a2, a3, a4, b1, b2, b3, b4⟩], ?_, ?_, ?_, ?_, HNX.out, ?_⟩
          · rw [show ((k - 1 : Nat) : Int) = (k : Int) - 1 from by have := HK0.out; omega]
          · have := HMK.out; have := HK0.out; omega
          · simp [HML.out]
          · intro b hb
            rcases List.mem_append.1 hb with hb | hb
            · exact HBS.out b hb
            · rw [List.mem_singleton.1 hb]
              exact ⟨⟨by show 0 ≤ room ∧ room ≤ 100000; omega, by show 0 ≤ a1 ∧ a1 ≤ a2 ∧ a2 ≤ room; omega, by show 0 ≤ a3 ∧ a3 ≤ a4 ∧ a4 ≤ 100000; omega, by show -300 ≤ b1 ∧ b1 ≤ b2 ∧ b2 ≤ 400; omega, by show -300 ≤ b3 ∧ b3 ≤ b4 ∧ b4 ≤ 400; omega, by show b2 ≤ b3; omega⟩, by show room ≤ 500; omega⟩
          · rw [List.flatMap_append]; exact HOX.out
        case measure =>
          have := HK0.out
          simp [intOf]
          omega
    · obtain rfl : k = 0 := by omega
      obtain ⟨bb, hbb, hsb⟩ := Sl.of_own (enc := encBx) encBx_len HML.out HO.out
      have HSB := Lib.hid hsb
      clear hsb
      have hz9 : w1.heap.size + 1 ≤ wr.heap.size := HC.out.hz
      go_wp2_with fail
      refine (cast_any d _ _ HC.out.die (by omega)).mono ?_
      rintro e w2 ⟨K1, ⟨hk5, hk6, hk7⟩, rfl, hd2, hg2⟩
      have hk8 : K1 ≤ M := by by_cases h : (M : Int) + 1 < 2 <;> omega
      obtain ⟨K1, rfl⟩ := Int.eq_ofNat_of_zero_le hk5
      obtain ⟨i1, hi1, jz0, jz1, jz2⟩ := info_parts info_fil
      have hgd := hz
      have HR0 := Lib.hid (show CR (fun W => Sl encBx 9 W bb A m bs) 37 76 3 celZ w w2 d w.heap.size w1.heap.size w2.heap.size #[.int .i64 x, .int .i64 y, .slice A m c, .slice none 0 0, .slice none 0 0] (.slice none 0 0) 0 [] from
        ⟨HC.out.die_ hd2 hg2, HSB.out.grown hg2 (fun _ e => by injection e; omega), World.ownsRow_nil _ _ _ _, fun W W1 hm hs => hs.mid hm (fun hn => ⟨by omega, by have := HSB.out.lt hn; have := hg2.size; omega⟩), by have := hg2.size; omega, Nat.le_refl _⟩)
      have hbw : m = 0 ∨ bb < w2.heap.size := by
        by_cases hm0 : m = 0
        · exact .inl hm0
        · have := HSB.out.lt (by omega); have := hg2.size; exact .inr (by omega)
      clear hk6 hk7 hd2 hg2 hk5
      go_wp2_with fail
      go_loopw [10, 11] (fun hv i wq => ∃ (k n2 c2 : Nat) (hh : Int) (A2 : Option Addr) (fs : List FilT), hv = .int .i64 hh ∧ i = .int .i64 k ∧ n2 + k = K1 ∧ n2 = fs.length ∧ (0 ≤ hh ∧ hh ≤ 5 * n2) ∧ FilsOk m fs hh ∧ CR (fun W => Sl encBx 9 W bb A m bs) 37 76 3 celZ w wq d w.heap.size w1.heap.size w2.heap.size #[.int .i64 x, .int .i64 y, .slice A m c, .slice A2 n2 c2, .slice none 0 0] (.slice A2 n2 c2) n2 (fs.flatMap encFl)) (fun _ i _ => (intOf i).toNat)
      case atStart => exact ⟨K1, 0, 0, 0, none, [], rfl, rfl, by omega, rfl, by omega, FilsOk.nil _ _, HR0.out⟩
      case round =>
        obtain ⟨k, n2, c2, hh, A2, fs, rfl, rfl, hmk, hml, ⟨hh0, hh1⟩, hfs, hR⟩ := hrel
        have HMK2 := Lib.hid hmk
        have HML2 := Lib.hid hml
        have HFS := Lib.hid hfs
        have HR := Lib.hid hR
        have hn20 : n2 ≤ 20 := by omega
        have hk20 : k ≤ 20 := by omega
        clear hmk hml hfs hR
        by_cases hkm : 0 < k ∧ 0 < m
        · obtain ⟨hk1, hm1⟩ := hkm
          have g1 := HR.out.st.cel.cell 2
          have hd1 : decide ((0 : Int) < (k : Int)) = true := by simp; omega
          have hd2 : decide ((0 : Int) < (m : Int)) = true := by simp; omega
          go_wp2_with fail
          refine (cast_any d _ _ HR.out.st.die (by omega)).mono ?_
          rintro e w3 ⟨hq, ⟨hq0, _, hq1⟩, rfl, hd3, hg3⟩
          have hq2 := hq1 (by omega)
          clear g1
          have HR3 := Lib.hid (HR.out.die_ hd3 hg3)
          have g1 := HR3.out.st.cel.cell 2
          clear hd3 hg3 hq1 HR
          go_wp2_with fail
          refine (cast_any d _ _ HR3.out.st.die (by omega)).mono ?_
          rintro e w4 ⟨bx, ⟨hx0, hx1', hx2'⟩, rfl, hd4, hg4⟩
          obtain ⟨bx, rfl⟩ := Int.eq_ofNat_of_zero_le hx0
          have hbm : bx < m := by by_cases h : (m : Int) < 2 <;> omega
          have HR4 := Lib.hid (HR3.out.die_ hd4 hg4)
          clear g1 hd4 hg4 hx1' hx2' HR3
          go_upto_region 16 with fail
          have hbl : bx < bs.length := by rw [← HML.out]; exact hbm
          obtain ⟨o, ho, hbz, _⟩ := HR4.out.s.atBx hbl
          subst ho
          obtain ⟨room, hroom⟩ : ∃ r, bs[bx].room = r := ⟨_, rfl⟩
          have hrm0 := (HBS.out bs[bx] (List.getElem_mem _)).1.r.1
          have hrm2 := (HBS.out bs[bx] (List.getElem_mem _)).2
          rw [hroom] at hrm0 hrm2
          have HCE := Lib.hid (show ∀ W, Sl encBx 9 W bb (some ⟨bb, o, none⟩) m bs → W.cell? ⟨bb, o + bx * 9, none⟩ = some (.int .i64 room) from fun W h => by have := h.cellAt hbl 0 _ rfl; rw [hroom] at this; exact this)
          have hR5 := HR4.out.drew
          have ix0 : (0 : Int) ≤ (bx : Int) := by omega
          have ix1 : (bx : Int) < (m : Int) := by omega
          have hhq0 : 0 ≤ hh + hq := by omega
          have hhq1 : hh + hq ≤ 5 * (n2 + 1) := by omega
          have HRM := Lib.hid hroom
          clear hroom
          have HQ5 := Lib.hid (show IntKind.i64.wrap (room + 5) = room + 5 from IntWalk.i64_in _ (by omega))
          refine wp_region_PL [1, 6, 10] (fun W => W.cell? ⟨w1.heap.size, 2, none⟩ = some (.slice (some ⟨bb, o, none⟩) m c) ∧ W.cell? ⟨w1.heap.size, 3, none⟩ = some (.slice A2 n2 c2) ∧ W.cell? ⟨bb, o + bx * 9, none⟩ = some (.int .i64 room)) rfl (by kernel_rfl) (⟨hR5.st.cel.cell 2, hR5.st.cel.cell 3, HCE.out _ hR5.s⟩) (fun hF0 => ?_)
          (refine wpAnyP_takeL (i := 0) (v := ?_) rfl (by kernel_rfl) (by kernel_rfl) (by kernel_rfl) (fun _ _ _ h => h) (by rfl) ?_ ?_; rotate_left 1; focus (intro w; go_simp; try with_reducible rfl))
          try simp only [Act.put, List.setIfInBounds_toArray, List.set_cons_zero, List.set_cons_succ]
          (refine wpAnyP_loadL (i := 1) (v := ?_) rfl (by kernel_rfl) (by kernel_rfl) (by kernel_rfl) (by rfl) (fun _ _ _ h => h) hF0 (by rfl) ?_ ?_; rotate_left 1; focus (intro w hFw; (try dsimp only at hFw); go_split_ands; go_simp; try with_reducible rfl))
          try simp only [Act.put, List.setIfInBounds_toArray, List.set_cons_zero, List.set_cons_succ]
          (refine wpAnyP_takeL (i := 2) (v := ?_) rfl (by kernel_rfl) (by kernel_rfl) (by kernel_rfl) (fun _ _ _ h => h) (by rfl) ?_ ?_; rotate_left 1; focus (intro w; go_simp; try with_reducible rfl))
          try simp only [Act.put, List.setIfInBounds_toArray, List.set_cons_zero, List.set_cons_succ]
          (refine wpAnyP_takeL (i := 3) (v := ?_) rfl (by kernel_rfl) (by kernel_rfl) (by kernel_rfl) (fun _ _ _ h => h) (by rfl) ?_ ?_; rotate_left 1; focus (intro w; go_simp; try with_reducible rfl))
          try simp only [Act.put, List.setIfInBounds_toArray, List.set_cons_zero, List.set_cons_succ]
          (refine wpAnyP_takeL (i := 4) (v := ?_) rfl (by kernel_rfl) (by kernel_rfl) (by kernel_rfl) (fun _ _ _ h => h) (by rfl) ?_ ?_; rotate_left 1; focus (intro w; go_simp; try with_reducible rfl))
          try simp only [Act.put, List.setIfInBounds_toArray, List.set_cons_zero, List.set_cons_succ]
          (refine wpAnyP_takeL (i := 5) (v := ?_) rfl (by kernel_rfl) (by kernel_rfl) (by kernel_rfl) (fun _ _ _ h => h) (by rfl) ?_ ?_; rotate_left 1; focus (intro w; go_simp; try with_reducible rfl))
          try simp only [Act.put, List.setIfInBounds_toArray, List.set_cons_zero, List.set_cons_succ]
          (refine wpAnyP_loadL (i := 6) (v := ?_) rfl (by kernel_rfl) (by kernel_rfl) (by kernel_rfl) (by rfl) (fun _ _ _ h => h) hF0 (by rfl) ?_ ?_; rotate_left 1; focus (intro w hFw; (try dsimp only at hFw); go_split_ands; go_simp; try with_reducible rfl))
          try simp only [Act.put, List.setIfInBounds_toArray, List.set_cons_zero, List.set_cons_succ]
          (refine wpAnyP_takeL (i := 7) (v := ?_) rfl (by kernel_rfl) (by kernel_rfl) (by kernel_rfl) (fun _ _ _ h => h) (by rfl) ?_ ?_; rotate_left 1; focus (intro w; go_simp; try with_reducible rfl))
          try simp only [Act.put, List.setIfInBounds_toArray, List.set_cons_zero, List.set_cons_succ]
          (refine wpAnyP_takeL (i := 8) (v := ?_) rfl (by kernel_rfl) (by kernel_rfl) (by kernel_rfl) (fun _ _ _ h => h) (by rfl) ?_ ?_; rotate_left 1; focus (intro w; go_simp; try with_reducible rfl))
          try simp only [Act.put, List.setIfInBounds_toArray, List.set_cons_zero, List.set_cons_succ]
          (refine wpAnyP_takeL (i := 9) (v := ?_) rfl (by kernel_rfl) (by kernel_rfl) (by kernel_rfl) (fun _ _ _ h => h) (by rfl) ?_ ?_; rotate_left 1; focus (intro w; go_simp; try with_reducible rfl))
          try simp only [Act.put, List.setIfInBounds_toArray, List.set_cons_zero, List.set_cons_succ]
          (refine wpAnyP_loadL (i := 10) (v := ?_) rfl (by kernel_rfl) (by kernel_rfl) (by kernel_rfl) (by rfl) (fun _ _ _ h => h) hF0 (by rfl) ?_ ?_; rotate_left 1; focus (intro w hFw; (try dsimp only at hFw); go_split_ands; go_simp; try with_reducible rfl))
          try simp only [Act.put, List.setIfInBounds_toArray, List.set_cons_zero, List.set_cons_succ]
          (refine wpAnyP_takeL (i := 11) (v := ?_) rfl (by kernel_rfl) (by kernel_rfl) (by kernel_rfl) (fun _ _ _ h => h) (by rfl) ?_ ?_; rotate_left 1; focus (intro w; go_simp; (first | (rw [HQ5.out]) | (with_reducible rfl))))
          try simp only [Act.put, List.setIfInBounds_toArray, List.set_cons_zero, List.set_cons_succ]
          refine wpAnyP_step (i := 12) rfl (by kernel_rfl) (by rfl) (fun K hK => ?_)
          go_simp
          (refine (cast_any d (room + 5) _ hR5.st.die (by omega)).mono ?_; rintro e w6 ⟨gr, ⟨hq3, _, hq4⟩, rfl, hd6, hg6⟩; have hq5 := hq4 (by omega); have hR6 := hR5.die_ hd6 hg6; clear hd6 hg6 hq4)
          (refine hK _ _ (⟨hR6.st.cel.cell 2, hR6.st.cel.cell 3, HCE.out _ hR6.s⟩) (fun hF1 => ?_); clear hK K hF0)
          try simp only [Act.put, List.setIfInBounds_toArray, List.set_cons_zero, List.set_cons_succ]
          (refine wpAnyP_takeL (i := 13) (v := ?_) rfl (by kernel_rfl) (by kernel_rfl) (by kernel_rfl) (fun _ _ _ h => h) (by rfl) ?_ ?_; rotate_left 1; focus (intro w; go_simp; try with_reducible rfl))
          try simp only [Act.put, List.setIfInBounds_toArray, List.set_cons_zero, List.set_cons_succ]
          refine wpAnyP_step (i := 14) rfl (by kernel_rfl) (by rfl) (fun K hK => ?_)
          go_simp
          (have hR7 := hR6.alloc (.cells #[.int .i64 bx, .int .i64 (hh + hq), .int .i64 gr] 76); have hS7 := Sl.new encFl_len w6 [(⟨bx, hh + hq, gr⟩ : FilT)] 76 #[.int .i64 bx, .int .i64 (hh + hq), .int .i64 gr] rfl)
          (refine hK _ _ (⟨hR7.st.cel.cell 2, hR7.st.cel.cell 3, HCE.out _ hR7.s⟩) (fun hF2 => ?_); clear hK K hF1)
          try simp only [Act.put, List.setIfInBounds_toArray, List.set_cons_zero, List.set_cons_succ]
          refine wpAnyP_step (i := 15) rfl (by kernel_rfl) (by rfl) (fun K hK => ?_)
          (refine wp_append_sl _ _ 34 rfl w2.heap.size 76 i1 _ 24 Try.underlying34 hi1 jz0 jz1 jz2 rfl (by omega) encFl_len _ n2 _ rfl hR7.o w6.heap.size _ 1 1 [(⟨bx, hh + hq, gr⟩ : FilT)] rfl hS7 oneFl (by unfold maxLen; omega) (by omega) hR7.hz ?_; intro A8 c8 w8 hO8 hg8 _; have hR8 := hR7.next hg8 hO8; have f3 := hR8.st.cel.frozen 3; have c3 := hR8.st.cel.cell 3)
          (refine hK _ _ (⟨hR8.st.cel.cell 2, hR8.st.cel.cell 3, HCE.out _ hR8.s⟩) (fun hF3 => ?_); clear hK K hF2)
          try simp only [Act.put, List.setIfInBounds_toArray, List.set_cons_zero, List.set_cons_succ]
          (refine wpAnyP_takeL (i := 16) (v := ?_) rfl (by kernel_rfl) (by kernel_rfl) (by kernel_rfl) (fun _ _ _ h => h) (by rfl) ?_ ?_; rotate_left 1; focus (intro w; go_simp; try with_reducible rfl))
          try simp only [Act.put, List.setIfInBounds_toArray, List.set_cons_zero, List.set_cons_succ]
          refine wpAnyP_last (i := 17) rfl (by kernel_rfl) (by kernel_rfl) (by rfl) (fun K hK => ?_)
          go_simp
          (refine hK _ _ ?_; clear hK K)
          try simp only [Act.put, List.setIfInBounds_toArray, List.set_cons_zero, List.set_cons_succ]
          refine wpAnyP_done (by kernel_rfl) ?_ _
          have HR9 := Lib.hid (hR8.set_ 3 (.slice A8 (n2 + 1) c8))
          clear f3 c3 hR8 hR7 hR6 hR5 hS7 hO8 hg8
          go_wp2_with fail
          refine ⟨?rel, ?measure⟩
          case rel =>
            refine ⟨k - 1, n2 + 1, c8, hh + hq, A8, fs ++ [⟨bx, hh + hq, gr⟩], rfl, ?_, ?_, ?_, ?_, ?_, ?_⟩
            · rw [show ((k - 1 : Nat) : Int) = (k : Int) - 1 from by omega]
            · have := HMK2.out; omega
            · simp [HML2.out]
            · omega
            · exact HFS.out.snoc ⟨by show 0 ≤ (bx : Int) ∧ (bx : Int) < _; omega, by show 0 ≤ hh + hq ∧ hh + hq ≤ 239; omega, by show 0 ≤ gr ∧ gr ≤ 100000; omega⟩ (by omega) rfl
            · rw [List.flatMap_append]; exact HR9.out
          case measure =>
            simp [intOf]
            omega
        · -- the loop of fillings is over
          obtain ⟨bf, hbf, hsf⟩ := Sl.of_own (enc := encFl) encFl_len HML2.out HR.out.o
          have HSF := Lib.hid hsf
          clear hsf
          have g1 := HR.out.st.cel.cell 2
          have hd1 : ¬ 0 < k ∨ (0 < k ∧ ¬ 0 < m) := by omega
          have HRQ := Lib.hid (show CR (fun W => Sl encBx 9 W bb A m bs ∧ Sl encFl 3 W bf A2 n2 fs) 37 78 2 celZ w wr d w.heap.size w1.heap.size wr.heap.size #[.int .i64 x, .int .i64 y, .slice A m c, .slice A2 n2 c2, .slice none 0 0] (.slice none 0 0) 0 [] from
            ⟨HR.out.st, ⟨HR.out.s, HSF.out⟩, World.ownsRow_nil _ _ _ _, fun W W1 hm hs => ⟨hs.1.mid hm (fun hn => ⟨by omega, HR.out.s.lt hn⟩), hs.2.mid hm (fun hn => ⟨by have := HR.out.hB; omega, HSF.out.lt hn⟩)⟩, by have := HR.out.hB; have := HR.out.hz; omega, Nat.le_refl _⟩)
          obtain ⟨B3, hB3⟩ : ∃ b, b = wr.heap.size := ⟨_, rfl⟩
          rw [← hB3] at HRQ
          obtain ⟨i2, hi2, kz0, kz1, kz2⟩ := info_parts info_rate
          have hbs : w.heap.size < bb ∧ w.heap.size < bf := ⟨by omega, by have := HR.out.hB; omega⟩
          clear HR hB3
          rcases hd1 with h1 | ⟨h1, h2⟩
          · go_wp2_with fail
            refine (from_any d (-60) 20 _ HRQ.out.st.die (by omega) (by omega) (by omega) (by omega)).mono ?_
            rintro e w3 ⟨ab, ⟨ha1, ha2, _⟩, rfl, hd3, hg3⟩
            have ha3 := ha2 (by omega)
            have HR3 := Lib.hid (HRQ.out.die_ hd3 hg3)
            clear hd3 hg3 ha2
            go_wp2_with fail
            refine (cast_any d 3 _ HR3.out.st.die (by omega)).mono ?_
            rintro e w4 ⟨ls, ⟨hl1, _, hl2⟩, rfl, hd4, hg4⟩
            have hl3 := hl2 (by omega)
            have HR4 := Lib.hid (HR3.out.die_ hd4 hg4)
            clear hd4 hg4 hl2 HR3
            go_wp2_with fail
            refine (from_any d 1 4 _ HR4.out.st.die (by omega) (by omega) (by omega) (by omega)).mono ?_
            rintro e w5 ⟨K2, ⟨hr1, hr2, _⟩, rfl, hd5, hg5⟩
            have hr3 := hr2 (by omega)
            obtain ⟨K2, rfl⟩ := Int.eq_ofNat_of_zero_le (show 0 ≤ K2 by omega)
            have HR5 := Lib.hid (HR4.out.die_ hd5 hg5)
            clear hd5 hg5 hr2 HR4 HRQ
            go_wp2_with fail
            go_loopw [13, 14, 15] (fun av lv i wq => ∃ (j n3 c3 : Nat) (a l : Int) (A3 : Option Addr) (rs : List RateT), av = .int .i64 a ∧ lv = .int .i64 l ∧ i = .int .i64 j ∧ n3 + j = K2 ∧ n3 = rs.length ∧ (-60 ≤ a ∧ a ≤ 20 + 60 * n3) ∧ (0 ≤ l ∧ l ≤ 2 + 7 * n3) ∧ RatesOk rs a l ∧ CR (fun W => Sl encBx 9 W bb A m bs ∧ Sl encFl 3 W bf A2 n2 fs) 37 78 2 celZ w wq d w.heap.size w1.heap.size B3 #[.int .i64 x, .int .i64 y, .slice A m c, .slice A2 n2 c2, .slice A3 n3 c3] (.slice A3 n3 c3) n3 (rs.flatMap encRt)) (fun _ _ i _ => (intOf i).toNat)
            case atStart => exact ⟨K2, 0, 0, ab, ls, none, [], rfl, rfl, rfl, by omega, rfl, by omega, by omega, RatesOk.nil _ _, HR5.out⟩
            case round =>
              obtain ⟨j, n3, c3, a, l, A3, rs, rfl, rfl, rfl, hmk, hml, ⟨hae, haf⟩, ⟨hle, hlf⟩, hrs, hR⟩ := hrel
              have HMK3 := Lib.hid hmk
              have HML3 := Lib.hid hml
              have HRS := Lib.hid hrs
              have HR := Lib.hid hR
              have hn4 : n3 ≤ 4 := by omega
              have hj4 : j ≤ 4 := by omega
              clear hmk hml hrs hR
              by_cases hj : 0 < j
              · have hR6 := HR.out.alloc (.cells #[.int .i64 a, .int .i64 l] 78)
                have g4 := HR.out.st.cel.cell 4
                have hS6 := Sl.new encRt_len wr [(⟨a, l⟩ : RateT)] 78 #[.int .i64 a, .int .i64 l] rfl
                go_wp2_with (at_builtin; refine wpList_append_sl rfl _ _ 35 rfl B3 78 i2 _ 16 Try.underlying35 hi2 kz0 kz1 kz2 rfl (by omega) encRt_len _ n3 _ rfl hR6.o _ _ 1 1 [(⟨a, l⟩ : RateT)] rfl hS6 oneRt (by unfold maxLen; omega) (by omega) hR6.hz ?_; intro A8 c8 w8 hO8 hg8 _; have hR8 := hR6.next hg8 hO8; have f4 := hR8.st.cel.frozen 4; have d4 := hR8.st.cel.cell 4)
                have HR9 := Lib.hid (hR8.set_ 4 (.slice A8 (n3 + 1) c8))
                clear f4 d4 g4 hR8 hR6 hS6 hO8 hg8
                go_wp2_with fail
                refine (from_any d 1 60 _ HR9.out.st.die (by omega) (by omega) (by omega) (by omega)).mono ?_
                rintro e w10 ⟨da, ⟨hx1, hx2, _⟩, rfl, hd10, hg10⟩
                have hx3 := hx2 (by omega)
                have HR10 := Lib.hid (HR9.out.die_ hd10 hg10)
                clear hx2 hd10 hg10 HR9
                go_wp2_with fail
                refine (cast_any d 8 _ HR10.out.st.die (by omega)).mono ?_
                rintro e w11 ⟨dl, ⟨hy1, _, hy2⟩, rfl, hd11, hg11⟩
                have hy3 := hy2 (by omega)
                have HR11 := Lib.hid (HR10.out.die_ hd11 hg11)
                clear hy2 hd11 hg11 HR10
                go_wp2_with fail
                refine ⟨?rel, ?measure⟩
                case rel =>
                  refine ⟨j - 1, n3 + 1, c8, a + da, l + dl, A8, rs ++ [⟨a, l⟩], rfl, rfl, ?_, ?_, ?_, ?_, ?_, ?_, ?_⟩
                  · rw [show ((j - 1 : Nat) : Int) = (j : Int) - 1 from by omega]
                  · have := HMK3.out; omega
                  · simp [HML3.out]
                  · omega
                  · omega
                  · exact HRS.out.snoc ⟨by show -300 ≤ a ∧ a ≤ 400; omega, by show 0 ≤ l ∧ l ≤ 1000; omega⟩ rfl rfl (by omega) (by omega)
                  · rw [List.flatMap_append]; exact HR11.out
                case measure =>
                  simp [intOf]
                  omega
              · have HRES := Lib.hid HR.out.st.res
                have g0 := HR.out.st.cel.cell 0
                have g1 := HR.out.st.cel.cell 1
                have g2 := HR.out.st.cel.cell 2
                have g3 := HR.out.st.cel.cell 3
                have g4 := HR.out.st.cel.cell 4
                go_wp2_with (refine wpList_store_row rfl 37 (.tmp 6) (.tmp 133) rfl w.heap.size #[.int .i64 x, .int .i64 y, .slice A m c, .slice A2 n2 c2, .slice A3 n3 c3] rfl rfl 37 celZ HRES.out info_cellA rfl (by simp [Value.oneCell']) ?_)
                exact cellarOf_end _ rfl HR.out HML3.out ⟨by show -300 ≤ x ∧ x ≤ y ∧ y ≤ 400; omega, by show bs.length ≤ 6; have := HML.out; have := HMK.out; omega, fun b hb => (HBS.out b hb).1, by show fs.length ≤ 20; have := HML2.out; omega, by have := HFS.out.fs; rw [HML.out] at this; exact this, HFS.out.fo, by show 1 ≤ rs.length ∧ rs.length ≤ 6; have := HML3.out; have := HMK3.out; omega, HRS.out.rs, HRS.out.ro⟩ hbs
          · go_wp2_with fail
            refine (from_any d (-60) 20 _ HRQ.out.st.die (by omega) (by omega) (by omega) (by omega)).mono ?_
            rintro e w3 ⟨ab, ⟨ha1, ha2, _⟩, rfl, hd3, hg3⟩
            have ha3 := ha2 (by omega)
            have HR3 := Lib.hid (HRQ.out.die_ hd3 hg3)
            clear hd3 hg3 ha2
            go_wp2_with fail
            refine (cast_any d 3 _ HR3.out.st.die (by omega)).mono ?_
            rintro e w4 ⟨ls, ⟨hl1, _, hl2⟩, rfl, hd4, hg4⟩
            have hl3 := hl2 (by omega)
            have HR4 := Lib.hid (HR3.out.die_ hd4 hg4)
            clear hd4 hg4 hl2 HR3
            go_wp2_with fail
            refine (from_any d 1 4 _ HR4.out.st.die (by omega) (by omega) (by omega) (by omega)).mono ?_
            rintro e w5 ⟨K2, ⟨hr1, hr2, _⟩, rfl, hd5, hg5⟩
            have hr3 := hr2 (by omega)
            obtain ⟨K2, rfl⟩ := Int.eq_ofNat_of_zero_le (show 0 ≤ K2 by omega)
            have HR5 := Lib.hid (HR4.out.die_ hd5 hg5)
            clear hd5 hg5 hr2 HR4 HRQ
            go_wp2_with fail
            go_loopw [13, 14, 15] (fun av lv i wq => ∃ (j n3 c3 : Nat) (a l : Int) (A3 : Option Addr) (rs : List RateT), av = .int .i64 a ∧ lv = .int .i64 l ∧ i = .int .i64 j ∧ n3 + j = K2 ∧ n3 = rs.length ∧ (-60 ≤ a ∧ a ≤ 20 + 60 * n3) ∧ (0 ≤ l ∧ l ≤ 2 + 7 * n3) ∧ RatesOk rs a l ∧ CR (fun W => Sl encBx 9 W bb A m bs ∧ Sl encFl 3 W bf A2 n2 fs) 37 78 2 celZ w wq d w.heap.size w1.heap.size B3 #[.int .i64 x, .int .i64 y, .slice A m c, .slice A2 n2 c2, .slice A3 n3 c3] (.slice A3 n3 c3) n3 (rs.flatMap encRt)) (fun _ _ i _ => (intOf i).toNat)
            case atStart => exact ⟨K2, 0, 0, ab, ls, none, [], rfl, rfl, rfl, by omega, rfl, by omega, by omega, RatesOk.nil _ _, HR5.out⟩
            case round =>
              obtain ⟨j, n3, c3, a, l, A3, rs, rfl, rfl, rfl, hmk, hml, ⟨hae, haf⟩, ⟨hle, hlf⟩, hrs, hR⟩ := hrel
              have HMK3 := Lib.hid hmk
              have HML3 := Lib.hid hml
              have HRS := Lib.hid hrs
              have HR := Lib.hid hR
              have hn4 : n3 ≤ 4 := by omega
              have hj4 : j ≤ 4 := by omega
              clear hmk hml hrs hR
              by_cases hj : 0 < j
              · have hR6 := HR.out.alloc (.cells #[.int .i64 a, .int .i64 l] 78)
                have g4 := HR.out.st.cel.cell 4
                have hS6 := Sl.new encRt_len wr [(⟨a, l⟩ : RateT)] 78 #[.int .i64 a, .int .i64 l] rfl
                go_wp2_with (at_builtin; refine wpList_append_sl rfl _ _ 35 rfl B3 78 i2 _ 16 Try.underlying35 hi2 kz0 kz1 kz2 rfl (by omega) encRt_len _ n3 _ rfl hR6.o _ _ 1 1 [(⟨a, l⟩ : RateT)] rfl hS6 oneRt (by unfold maxLen; omega) (by omega) hR6.hz ?_; intro A8 c8 w8 hO8 hg8 _; have hR8 := hR6.next hg8 hO8; have f4 := hR8.st.cel.frozen 4; have d4 := hR8.st.cel.cell 4)
                have HR9 := Lib.hid (hR8.set_ 4 (.slice A8 (n3 + 1) c8))
                clear f4 d4 g4 hR8 hR6 hS6 hO8 hg8
                go_wp2_with fail
                refine (from_any d 1 60 _ HR9.out.st.die (by omega) (by omega) (by omega) (by omega)).mono ?_
                rintro e w10 ⟨da, ⟨hx1, hx2, _⟩, rfl, hd10, hg10⟩
                have hx3 := hx2 (by omega)
                have HR10 := Lib.hid (HR9.out.die_ hd10 hg10)
                clear hx2 hd10 hg10 HR9
                go_wp2_with fail
                refine (cast_any d 8 _ HR10.out.st.die (by omega)).mono ?_
                rintro e w11 ⟨dl, ⟨hy1, _, hy2⟩, rfl, hd11, hg11⟩
                have hy3 := hy2 (by omega)
                have HR11 := Lib.hid (HR10.out.die_ hd11 hg11)
                clear hy2 hd11 hg11 HR10
                go_wp2_with fail
                refine ⟨?rel, ?measure⟩
                case rel =>
                  refine ⟨j - 1, n3 + 1, c8, a + da, l + dl, A8, rs ++ [⟨a, l⟩], rfl, rfl, ?_, ?_, ?_, ?_, ?_, ?_, ?_⟩
                  · rw [show ((j - 1 : Nat) : Int) = (j : Int) - 1 from by omega]
                  · have := HMK3.out; omega
                  · simp [HML3.out]
                  · omega
                  · omega
                  · exact HRS.out.snoc ⟨by show -300 ≤ a ∧ a ≤ 400; omega, by show 0 ≤ l ∧ l ≤ 1000; omega⟩ rfl rfl (by omega) (by omega)
                  · rw [List.flatMap_append]; exact HR11.out
                case measure =>
                  simp [intOf]
                  omega
              · have HRES := Lib.hid HR.out.st.res
                have g0 := HR.out.st.cel.cell 0
                have g1 := HR.out.st.cel.cell 1
                have g2 := HR.out.st.cel.cell 2
                have g3 := HR.out.st.cel.cell 3
                have g4 := HR.out.st.cel.cell 4
                go_wp2_with (refine wpList_store_row rfl 37 (.tmp 6) (.tmp 133) rfl w.heap.size #[.int .i64 x, .int .i64 y, .slice A m c, .slice A2 n2 c2, .slice A3 n3 c3] rfl rfl 37 celZ HRES.out info_cellA rfl (by simp [Value.oneCell']) ?_)
                exact cellarOf_end _ rfl HR.out HML3.out ⟨by show -300 ≤ x ∧ x ≤ y ∧ y ≤ 400; omega, by show bs.length ≤ 6; have := HML.out; have := HMK.out; omega, fun b hb => (HBS.out b hb).1, by show fs.length ≤ 20; have := HML2.out; omega, by have := HFS.out.fs; rw [HML.out] at this; exact this, HFS.out.fo, by show 1 ≤ rs.length ∧ rs.length ≤ 6; have := HML3.out; have := HMK3.out; omega, HRS.out.rs, HRS.out.ro⟩ hbs

end Go.Proofs.Ytmoolcpogilgkaa
