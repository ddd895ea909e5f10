/-
  NetOf: a net made of numbers. What the laws of nets share: how things stand behind the making of a net, and what the program's functions answer of it.
-/
import Derived.Test.YtmoolcpogilgkaaTrNetL
import Derived.Test.YtmoolcpogilgkaaSmall
import Derived.Test.YtmoolcpogilgkaaDie2
import Derived.Test.YtmoolcpogilgkaaNums
set_option linter.unusedVariables false
set_option linter.unusedSimpArgs false
namespace Go.Proofs.Ytmoolcpogilgkaa
open Go.RowKit Go.Shelf Go.Sort

theorem info_move3 : (Try.prog.info? 70).map (fun i => (i.zero, i.size, i.bytes)) = some (some (.agg #[.int .i64 0, .int .i64 0, .int .i64 0]), 3, 24) := by kernel_rfl
theorem oneM3 (x : Mv) : ∀ u ∈ encM x, u.oneCell' = true := by simp [encM, Value.oneCell']
theorem NetIn.bd {bs : List Int} {ms : List Mv} (h : NetIn bs ms) (b : Int) : 0 ≤ hasAt (bsF bs) ms b ∧ hasAt (bsF bs) ms b ≤ 8000000 := by
  have := h.has_bd ms.length b
  rwa [List.take_length] at this
/-- a batch that is so many places further is another one -/
theorem bring_ne {f r m : Int} (h0 : 0 ≤ f) (h1 : f < m) (h2 : 1 ≤ r) (h3 : r ≤ m - 1) : bring (f + r) m ≠ f := by
  unfold bring
  rw [if_neg (by omega)]
  intro h
  have h4 := Int.emod_add_mul_ediv (f + r) m
  rw [h] at h4
  have h5 : r = m * ((f + r) / m) := by omega
  have h6 : m ∣ r := ⟨_, h5⟩
  have := Int.le_of_dvd (by omega) h6
  omega
/-- how things stand while NetOf works -/
structure NSt (w W : World) (d : Nat) (v1 v2 : Value) : Prop where
  die : IsDie W d
  net : Blk W (w.heap.size + 1) 27 #[v1, v2]
  res : Blk W w.heap.size 27 #[.slice none 0 0, .slice none 0 0]
  only : w.grownBy W (some d)
  hd : d < w.heap.size
  hz : w.heap.size + 2 ≤ W.heap.size
section
variable {w W W1 : World} {d : Nat} {v1 v2 : Value}
theorem NSt.die_ (h : NSt w W d v1 v2) (hd1 : IsDie W1 d) (hg : W.grownBy W1 (some d)) : NSt w W1 d v1 v2 :=
  ⟨hd1, die_keep h.net hg (by have := h.hd; omega), die_keep h.res hg (by have := h.hd; omega), only_trans h.only hg, h.hd, Nat.le_trans h.hz hg.size⟩
theorem NSt.drew (h : NSt w W d v1 v2) : NSt w W.drew d v1 v2 := ⟨h.die, h.net, h.res, only_drew h.only, h.hd, h.hz⟩
theorem NSt.alloc (h : NSt w W d v1 v2) (o : Obj) : NSt w (W.alloc o) d v1 v2 := ⟨h.die.alloc o, h.net.alloc o, h.res.alloc o, only_alloc h.only o, h.hd, Nat.le_trans h.hz (by simp)⟩
theorem NSt.facts (h : NSt w W d v1 v2) : W.cell? ⟨w.heap.size + 1, 0, none⟩ = some v1 ∧ W.cell? ⟨w.heap.size + 1, 1, none⟩ = some v2 := ⟨h.net.cell 0, h.net.cell 1⟩
theorem NSt.below (h : NSt w W d v1 v2) (hb : Below W.heap.size W W1) : NSt w W1 d v1 v2 :=
  ⟨h.die.keep (hb.block d h.die.lt), h.net.below hb h.net.lt, h.res.below hb h.res.lt, only_stepB hb h.only, h.hd, Nat.le_trans h.hz hb.size⟩
/-- a write to a block that is no older -/
theorem NSt.grown (h : NSt w W d v1 v2) {row : Option Nat} (hg : W.grownBy W1 row) (hr : ∀ r, row = some r → w.heap.size + 2 ≤ r) : NSt w W1 d v1 v2 := by
  have hne : ∀ b, b < w.heap.size + 2 → some b ≠ row := fun b hb e => by have := hr b e.symm; omega
  refine ⟨h.die.keep (hg.block d h.die.lt (hne d (by have := h.hd; omega))), h.net.grown hg (hne _ (by omega)), h.res.grown hg (hne _ (by omega)), ?_, h.hd, Nat.le_trans h.hz hg.size⟩
  exact ⟨hg.os.trans h.only.os, hg.tape.trans h.only.tape, hg.output.trans h.only.output, Nat.le_trans h.only.size hg.size, fun i hi hn => (hg.block i (Nat.lt_of_lt_of_le hi h.only.size) (hne i (by omega))).trans (h.only.block i hi hn)⟩
theorem NSt.set0 (h : NSt w W d v1 v2) (u : Value) : NSt w (W.setCell ⟨w.heap.size + 1, 0, none⟩ u) d u v2 :=
  ⟨h.die.keep (Below.heap_setCell _ _ _ _ (by have := h.hd; show d ≠ w.heap.size + 1; omega)), h.net.set_ 0 u, h.res.far (p := ⟨w.heap.size + 1, 0, none⟩) (by show w.heap.size ≠ w.heap.size + 1; omega) u, only_setCell h.only (.inr (by show w.heap.size ≤ w.heap.size + 1; omega)) _, h.hd, by simpa [World.setCell] using h.hz⟩
theorem NSt.set1 (h : NSt w W d v1 v2) (u : Value) : NSt w (W.setCell ⟨w.heap.size + 1, 1, none⟩ u) d v1 u :=
  ⟨h.die.keep (Below.heap_setCell _ _ _ _ (by have := h.hd; show d ≠ w.heap.size + 1; omega)), h.net.set_ 1 u, h.res.far (p := ⟨w.heap.size + 1, 1, none⟩) (by show w.heap.size ≠ w.heap.size + 1; omega) u, only_setCell h.only (.inr (by show w.heap.size ≤ w.heap.size + 1; omega)) _, h.hd, by simpa [World.setCell] using h.hz⟩
end

theorem grown_cell (W : World) (p : Addr) (u : Value) : W.grownBy (W.setCell p u) (some p.block) := only_setCell (only_refl W _) (.inl rfl) u
theorem NSt.step {w W W1 : World} {d : Nat} {v1 v2 : Value} (h : NSt w W d v1 v2) {row : Option Nat} (hg : W.grownBy W1 row) (hd1 : IsDie W1 d) (hr : ∀ r, row = some r → r = d ∨ w.heap.size + 2 ≤ r) : NSt w W1 d v1 v2 := by
  have hdd := h.hd
  refine ⟨hd1, h.net.grown hg (fun e => ?_), h.res.grown hg (fun e => ?_), ⟨hg.os.trans h.only.os, hg.tape.trans h.only.tape, hg.output.trans h.only.output, Nat.le_trans h.only.size hg.size, fun i hi hn => (hg.block i (Nat.lt_of_lt_of_le hi h.only.size) (fun e => ?_)).trans (h.only.block i hi hn)⟩, h.hd, Nat.le_trans h.hz hg.size⟩
  · have := hr _ e.symm; omega
  · have := hr _ e.symm; omega
  · have := hr _ e.symm
    have : i ≠ d := fun e2 => hn (by rw [e2])
    omega
/-- how things stand in a round -/
structure NR (w W : World) (d B2 z : Nat) (A : Option Addr) (m c : Nat) (Am : Option Addr) (nm cm bb Bh : Nat) (bs hs : List Int) (ms : List Mv) : Prop where
  n : NSt w W d (.slice A m c) (.slice Am nm cm)
  s : Sl encI 1 W bb A m bs
  r : RowC W Bh hs
  o : W.ownsRow B2 70 3 (.slice Am nm cm) nm (ms.flatMap encM)
  zo : ∀ g, Value.ownBlock (.slice Am nm cm) = some g → g < z
  zz : z ≤ W.heap.size
  lo : w.heap.size + 2 ≤ B2 ∧ B2 ≤ z ∧ w.heap.size + 2 ≤ bb ∧ bb < B2 ∧ w.heap.size + 2 ≤ Bh ∧ Bh < B2 ∧ bb ≠ Bh
section
variable {w W W1 : World} {d B2 z m c nm cm bb Bh : Nat} {A Am : Option Addr} {bs hs : List Int} {ms : List Mv}
theorem NR.step (h : NR w W d B2 z A m c Am nm cm bb Bh bs hs ms) {row : Option Nat} (hg : W.grownBy W1 row) (hd1 : IsDie W1 d) (hr : ∀ r, row = some r → r = d ∨ z ≤ r) : NR w W1 d B2 z A m c Am nm cm bb Bh bs hs ms := by
  obtain ⟨l1, l2, l3, l4, l5, l6, l7⟩ := h.lo
  have hdd := h.n.hd
  refine ⟨h.n.step hg hd1 (fun r e => by have := hr r e; omega), h.s.grown hg (fun _ e => by have := hr _ e.symm; omega), h.r.grown hg (fun e => by have := hr _ e.symm; omega), h.o.kept hg ?_, h.zo, Nat.le_trans h.zz hg.size, h.lo⟩
  cases hv : Value.ownBlock (.slice Am nm cm) with
  | none => exact .inl rfl
  | some g => exact .inr (fun e => by have h1 := h.zo g hv; have h2 := (h.o.lt g hv).1; have := hr g e.symm; omega)
theorem NR.drew (h : NR w W d B2 z A m c Am nm cm bb Bh bs hs ms) : NR w W.drew d B2 z A m c Am nm cm bb Bh bs hs ms := ⟨h.n.drew, h.s, h.r, h.o, h.zo, h.zz, h.lo⟩
theorem NR.alloc (h : NR w W d B2 z A m c Am nm cm bb Bh bs hs ms) (o : Obj) : NR w (W.alloc o) d B2 z A m c Am nm cm bb Bh bs hs ms := h.step (World.grownBy_alloc W o none) (h.n.die.alloc o) (fun r e => by cases e)
theorem NR.set_ (h : NR w W d B2 z A m c Am nm cm bb Bh bs hs ms) {k : Nat} (hk : k < hs.length) (x : Int) : NR w (W.setCell ⟨Bh, k, none⟩ (.int .i64 x)) d B2 z A m c Am nm cm bb Bh bs (hs.set k x) ms := by
  obtain ⟨l1, l2, l3, l4, l5, l6, l7⟩ := h.lo
  have hdd := h.n.hd
  have hg := grown_cell W ⟨Bh, k, none⟩ (.int .i64 x)
  exact ⟨h.n.step hg (h.n.die.keep (Below.heap_setCell _ _ _ _ (by show d ≠ Bh; omega))) (fun r e => by cases e; exact .inr l5), h.s.grown hg (fun _ e => by injection e with e; exact l7 e), h.r.set_ hk x, ownsRow_setCell h.o (p := ⟨Bh, k, none⟩) l6 _, h.zo, by have := h.zz; simpa [World.setCell] using this, h.lo⟩
end
def NetPost (d B M : Nat) (w : World) (e : Ending) (w' : World) : Prop :=
  ∃ (bs : List Int) (ms : List Mv) (b1 b2 : Nat) (A1 A2 : Option Addr) (nb cb nm cm : Nat), NetIn bs ms ∧ nb ≤ B ∧ nm ≤ M ∧ e = .returned (netV A1 A2 nb cb nm cm) ∧ NetM w' b1 b2 A1 A2 nb cb nm cm bs ms ∧ w.heap.size ≤ b1 ∧ w.heap.size ≤ b2 ∧ DieTo d w w'
def NetPostG (d B M : Nat) (G : Int) (w : World) (e : Ending) (w' : World) : Prop :=
  ∃ (bs : List Int) (ms : List Mv) (b1 b2 : Nat) (A1 A2 : Option Addr) (nb cb nm cm : Nat), (∀ g ∈ bs, g ≤ G) ∧ NetIn bs ms ∧ nb ≤ B ∧ nm ≤ M ∧ e = .returned (netV A1 A2 nb cb nm cm) ∧ NetM w' b1 b2 A1 A2 nb cb nm cm bs ms ∧ w.heap.size ≤ b1 ∧ w.heap.size ≤ b2 ∧ DieTo d w w'

theorem own_cap {W : World} {base n c sz : Nat} {e : TypeId} {A : Option Addr} {xs : List Value} (h : W.ownsRow base e sz (.slice A n c) n xs) : n ≤ c := by
  rcases h.2 with ⟨hv, hz⟩ | ⟨g, cap, cur, hv, hb, hg, h1, h2, h3, h4⟩
  · omega
  · injection hv with _ _ hv; omega
/-- the net is handed back -/
theorem info_netZ : (Try.prog.info? 27).map (·.size) = some 2 := by kernel_rfl
theorem netOf_end {G : Int} {d B M B2 m c nm cm bb : Nat} {A Am : Option Addr} {bs : List Int} {ms : List Mv} {w W : World} (tmps : Array Value) (ht : tmps.getD 8 undef = .pointer (some ⟨w.heap.size, 0, none⟩)) (u : ∀ g ∈ bs, g ≤ G)
    (hN : NSt w W d (.slice A m c) (.slice Am nm cm)) (hS : Sl encI 1 W bb A m bs) (hO : W.ownsRow B2 70 3 (.slice Am nm cm) nm (ms.flatMap encM)) (hI : NetIn bs ms) (hl : nm = ms.length) (h1 : m ≤ B) (h2 : nm ≤ M) (hc : m ≤ c) (hb : w.heap.size + 2 ≤ bb) (hB2 : w.heap.size + 2 ≤ B2) :
    bodyPost Try.prog Try.f5 (NetPostG d B M G w) .ret { tmps := tmps, defers := [] } (W.setRow w.heap.size #[.slice A m c, .slice Am nm cm]) := by
  have hdd := hN.hd
  have hR := hN.res.setRow #[.slice A m c, .slice Am nm cm]
  refine bodyPost_ret (v := netV A Am m c nm cm) (results_cell_row rfl _ _ w.heap.size 27 #[.slice A m c, .slice Am nm cm] (0, 0) _ ht hR Try.underlying27 rfl info_netZ) rfl ?_
  obtain ⟨bm, hbm, hsm⟩ := Sl.of_own (enc := encM) encM_len hl hO
  have hg := grown_setRow W w.heap.size #[.slice A m c, .slice Am nm cm]
  have hd2 : IsDie (W.setRow w.heap.size #[.slice A m c, .slice Am nm cm]) d := hN.die.keep (hg.block d hN.die.lt (fun e => by injection e; omega))
  refine ⟨bs, ms, bb, bm, A, Am, m, c, nm, cm, u, hI, h1, h2, rfl, ⟨hS.grown hg (fun _ e => by injection e; omega), hsm.grown hg (fun _ e => by injection e; omega), hc, own_cap hO⟩, by omega, by omega, hd2, ?_⟩
  exact ⟨hg.os.trans hN.only.os, hg.tape.trans hN.only.tape, hg.output.trans hN.only.output, Nat.le_trans hN.only.size hg.size, fun i hi hn => (hg.block i (Nat.lt_of_lt_of_le hi hN.only.size) (fun e => by injection e; omega)).trans (hN.only.block i hi hn)⟩

set_option maxRecDepth 100000 in
set_option maxHeartbeats 1000000 in
theorem netOfG_any (d B M : Nat) (G : Int) (w : World) (hd : IsDie w d) (hB1 : 1 ≤ B) (hB8 : B ≤ 8) (hM : M ≤ 12) (hG0 : 0 ≤ G) (hG1 : G ≤ 1000000) :
    Calls Try.prog 5 #[.pointer (some ⟨d, 0, none⟩), .int .i64 B, .int .i64 M, .int .i64 G] w (NetPostG d B M G w) := by
  obtain ⟨i0, hi, iz0, iz1, iz2⟩ := info_parts info_int
  have hz := hd.lt
  have hN0 : NSt w ((w.alloc (.cells #[.slice none 0 0, .slice none 0 0] 27)).alloc (.cells #[.slice none 0 0, .slice none 0 0] 27)) d (.slice none 0 0) (.slice none 0 0) := by
    have b := Blk.new (w.alloc (.cells #[.slice none 0 0, .slice none 0 0] 27)) 27 #[.slice none 0 0, .slice none 0 0]
    rw [World.size_alloc] at b
    exact ⟨(hd.alloc _).alloc _, b, (Blk.new w _ _).alloc _, only_alloc (only_alloc (only_refl _ _) _) _, hz, by simp⟩
  have HN0 := Lib.hid hN0
  clear hd hN0
  go_enter Try.func5, Try.ntmps5
  go_wp2_with fail
  refine (from_any d 1 B _ HN0.out.die (by omega) (by omega) (by omega) (by omega)).mono ?_
  rintro e w1 ⟨K0, ⟨hk1, hk2, _⟩, rfl, hd1, hg1⟩
  have hk3 := hk2 (by omega)
  obtain ⟨K0, rfl⟩ := Int.eq_ofNat_of_zero_le (show 0 ≤ K0 by omega)
  have HN1 := Lib.hid (HN0.out.die_ hd1 hg1)
  clear hk2 hd1 hg1 HN0
  go_wp2_with fail
  go_loopw [10] (fun i wr => ∃ (k m c : Nat) (A : Option Addr) (bs : List Int), i = .int .i64 k ∧ m + k = K0 ∧ m = bs.length ∧ (∀ g ∈ bs, 0 ≤ g ∧ g ≤ G) ∧ NSt w wr d (.slice A m c) (.slice none 0 0) ∧ wr.ownsRow (w.heap.size + 2) 3 1 (.slice A m c) m (bs.flatMap encI)) (fun i _ => (intOf i).toNat)
  case atStart => exact ⟨K0, 0, 0, none, [], rfl, by omega, rfl, by simp, HN1.out, World.ownsRow_nil _ _ _ _⟩
  case round =>
    obtain ⟨k, m, c, A, bs, rfl, hmk, hml, hbs, hN, hown⟩ := hrel
    have HMK := Lib.hid hmk
    have HML := Lib.hid hml
    have HBS := Lib.hid hbs
    have hm8 : m ≤ 8 := by omega
    have hk8 : k ≤ 8 := by omega
    have hz1 := hN.hz
    have HN := Lib.hid hN
    have HO := Lib.hid hown
    clear hmk hml hbs hN hown
    by_cases hk0 : 0 < k
    · have HK0 := Lib.hid hk0
      go_upto_region 5 with fail
      have hN := HN.out.drew
      have hO : wr.drew.ownsRow (w.heap.size + 2) 3 1 (.slice A m c) m (bs.flatMap encI) := HO.out
      have HGW := Lib.hid (show IntKind.i64.wrap (G + 1) = G + 1 from IntWalk.i64_in _ (by omega))
      refine wp_region_PL [1] (fun W => W.cell? ⟨w.heap.size + 1, 0, none⟩ = some (.slice A m c) ∧ W.cell? ⟨w.heap.size + 1, 1, none⟩ = some (.slice none 0 0)) rfl (by kernel_rfl) (hN.facts) (fun hF0 => ?_)
      (refine wpAnyP_takeL (i := 0) (v := ?_) rfl (by kernel_rfl) (by kernel_rfl) (by kernel_rfl) (fun _ _ _ h => h) (by rfl) ?_ ?_; rotate_left 1; focus (intro w; go_simp; try with_reducible rfl))
      try simp only [Act.put, List.setIfInBounds_toArray, List.set_cons_zero, List.set_cons_succ]
      (refine wpAnyP_loadL (i := 1) (v := ?_) rfl (by kernel_rfl) (by kernel_rfl) (by kernel_rfl) (by rfl) (fun _ _ _ h => h) hF0 (by rfl) ?_ ?_; rotate_left 1; focus (intro w hFw; (try dsimp only at hFw); go_split_ands; go_simp; try with_reducible rfl))
      try simp only [Act.put, List.setIfInBounds_toArray, List.set_cons_zero, List.set_cons_succ]
      (refine wpAnyP_takeL (i := 2) (v := ?_) rfl (by kernel_rfl) (by kernel_rfl) (by kernel_rfl) (fun _ _ _ h => h) (by rfl) ?_ ?_; rotate_left 1; focus (intro w; go_simp; try with_reducible rfl))
      try simp only [Act.put, List.setIfInBounds_toArray, List.set_cons_zero, List.set_cons_succ]
      (refine wpAnyP_takeL (i := 3) (v := ?_) rfl (by kernel_rfl) (by kernel_rfl) (by kernel_rfl) (fun _ _ _ h => h) (by rfl) ?_ ?_; rotate_left 1; focus (intro w; go_simp; try with_reducible rfl))
      try simp only [Act.put, List.setIfInBounds_toArray, List.set_cons_zero, List.set_cons_succ]
      (refine wpAnyP_takeL (i := 4) (v := ?_) rfl (by kernel_rfl) (by kernel_rfl) (by kernel_rfl) (fun _ _ _ h => h) (by rfl) ?_ ?_; rotate_left 1; focus (intro w; go_simp; try with_reducible rfl))
      try simp only [Act.put, List.setIfInBounds_toArray, List.set_cons_zero, List.set_cons_succ]
      (refine wpAnyP_takeL (i := 5) (v := ?_) rfl (by kernel_rfl) (by kernel_rfl) (by kernel_rfl) (fun _ _ _ h => h) (by rfl) ?_ ?_; rotate_left 1; focus (intro w; go_simp; (rw [HGW.out])))
      try simp only [Act.put, List.setIfInBounds_toArray, List.set_cons_zero, List.set_cons_succ]
      (refine wpAnyP_takeL (i := 7) (v := ?_) rfl (by kernel_rfl) (by kernel_rfl) (by kernel_rfl) (fun _ _ _ h => h) (by rfl) ?_ ?_; rotate_left 1; focus (intro w; go_simp; try with_reducible rfl))
      try simp only [Act.put, List.setIfInBounds_toArray, List.set_cons_zero, List.set_cons_succ]
      (refine wpAnyP_takeL (i := 8) (v := ?_) rfl (by kernel_rfl) (by kernel_rfl) (by kernel_rfl) (fun _ _ _ h => h) (by rfl) ?_ ?_; rotate_left 1; focus (intro w; go_simp; try with_reducible rfl))
      try simp only [Act.put, List.setIfInBounds_toArray, List.set_cons_zero, List.set_cons_succ]
      (refine wpAnyP_takeL (i := 9) (v := ?_) rfl (by kernel_rfl) (by kernel_rfl) (by kernel_rfl) (fun _ _ _ h => h) (by rfl) ?_ ?_; rotate_left 1; focus (intro w; go_simp; (rw [HGW.out])))
      try simp only [Act.put, List.setIfInBounds_toArray, List.set_cons_zero, List.set_cons_succ]
      refine wpAnyP_step (i := 6) rfl (by kernel_rfl) (by rfl) (fun K hK => ?_)
      go_simp
      (refine (cast_any d _ _ hN.die (by omega)).mono ?_; rintro e w6 ⟨q1, ⟨hq1, hq2, hq3⟩, rfl, hd6, hg6⟩; have hO6 := ownsRow_die hO hg6 (by omega); have hN6 := hN.die_ hd6 hg6)
      (refine hK _ _ (hN6.facts) (fun hF1 => ?_); clear hK K hF0)
      try simp only [Act.put, List.setIfInBounds_toArray, List.set_cons_zero, List.set_cons_succ]
      refine wpAnyP_step (i := 10) rfl (by kernel_rfl) (by rfl) (fun K hK => ?_)
      go_simp
      (refine (cast_any d _ _ hN6.die (by omega)).mono ?_; rintro e w7 ⟨q2, ⟨hr1, hr2, hr3⟩, rfl, hd7, hg7⟩; have hO7 := (ownsRow_die hO6 hg7 (by omega)).alloc (.cells #[.int .i64 0, .int .i64 q1, .int .i64 q2] 3); have hN7 := hN6.die_ hd7 hg7; have hA7 := hN7.alloc (.cells #[.int .i64 0, .int .i64 q1, .int .i64 q2] 3))
      (refine hK _ _ (hN7.facts) (fun hF2 => ?_); clear hK K hF1)
      try simp only [Act.put, List.setIfInBounds_toArray, List.set_cons_zero, List.set_cons_succ]
      refine wpAnyP_step (i := 11) rfl (by kernel_rfl) (by rfl) (fun K hK => ?_)
      go_simp
      (refine hK _ _ (hA7.facts) (fun hF3 => ?_); clear hK K hF2)
      try simp only [Act.put, List.setIfInBounds_toArray, List.set_cons_zero, List.set_cons_succ]
      refine wpAnyP_step (i := 12) rfl (by kernel_rfl) (by rfl) (fun K hK => ?_)
      go_simp
      (refine (one_any d _ 3 3 _ [0, q1, q2] _ hA7.die (Sl.newI w7 [0, q1, q2] _) (by omega) (by omega) (by have := hN7.die.lt; omega)).mono ?_; rintro e w8 ⟨q3, hq, rfl, hd8, hg8⟩; have hO8 := (ownsRow_die hO7 hg8 (by omega)).alloc (.cells #[.int .i64 q3] 3); have hN8 := hA7.die_ hd8 hg8; have hA8 := hN8.alloc (.cells #[.int .i64 q3] 3))
      (refine hK _ _ (hN8.facts) (fun hF4 => ?_); clear hK K hF3)
      try simp only [Act.put, List.setIfInBounds_toArray, List.set_cons_zero, List.set_cons_succ]
      refine wpAnyP_step (i := 13) rfl (by kernel_rfl) (by rfl) (fun K hK => ?_)
      go_simp
      (refine hK _ _ (hA8.facts) (fun hF5 => ?_); clear hK K hF4)
      try simp only [Act.put, List.setIfInBounds_toArray, List.set_cons_zero, List.set_cons_succ]
      refine wpAnyP_last (i := 14) rfl (by kernel_rfl) (by kernel_rfl) (by rfl) (fun K hK => ?_)
      (refine wp_append_sl _ _ 22 rfl (w.heap.size + 2) 3 i0 _ 8 Try.underlying22 hi iz0 iz1 iz2 rfl (by omega) encI_len _ m _ (by rfl) hO8 w8.heap.size _ 1 1 [q3] (by rfl) (Sl.newI w8 [q3] 3) oneI (by unfold maxLen; omega) (by omega) hA8.hz ?_; intro A9 c9 w9 hO9 hg9 _; have hN9 := hA8.grown hg9 (fun r e => (hO8.lt r e).1); have f9 := hN9.net.frozen 0; have e9 := hN9.net.cell 0; have hNx := hN9.set0 (.slice A9 (m + 1) c9); have hOx := ownsRow_setCell hO9 (p := ⟨w.heap.size + 1, 0, none⟩) (by show w.heap.size + 1 < _; omega) (.slice A9 (m + 1) c9))
      (refine hK _ _ ?_; clear hK K)
      try simp only [Act.put, List.setIfInBounds_toArray, List.set_cons_zero, List.set_cons_succ]
      (refine wpAnyP_takeL (i := 15) (v := ?_) rfl (by kernel_rfl) (by kernel_rfl) (by kernel_rfl) (fun _ _ _ h => h) (by rfl) ?_ ?_; rotate_left 1; focus (intro w; go_simp; try with_reducible rfl))
      try simp only [Act.put, List.setIfInBounds_toArray, List.set_cons_zero, List.set_cons_succ]
      refine wpAnyP_last (i := 16) rfl (by kernel_rfl) (by kernel_rfl) (by rfl) (fun K hK => ?_)
      go_simp
      (refine hK _ _ ?_; clear hK K)
      try simp only [Act.put, List.setIfInBounds_toArray, List.set_cons_zero, List.set_cons_succ]
      refine wpAnyP_done (by kernel_rfl) ?_ _
      have HNX := Lib.hid hNx
      have HOX := Lib.hid hOx
      have HQ := Lib.hid (show 0 ≤ q3 ∧ q3 ≤ G from by
        simp at hq
        have h1 : q1 ≤ G := by by_cases h : G + 1 < 2 <;> omega
        have h2 : q2 ≤ G := by by_cases h : G + 1 < 2 <;> omega
        omega)
      clear hNx hOx hN hO hO6 hN6 hO7 hN7 hA7 hO8 hN8 hA8 hO9 hN9 f9 e9 hq hq2 hq3 hr2 hr3 hg9
      go_wp2_with fail
      refine ⟨⟨k - 1, m + 1, c9, A9, bs ++ [q3], by rw [show ((k - 1 : Nat) : Int) = (k : Int) - 1 from by have := HK0.out; omega], by have := HMK.out; have := HK0.out; omega, by simp [HML.out], fun g hg => ?_, HNX.out, by rw [List.flatMap_append]; exact HOX.out⟩, by simp [intOf]; omega⟩
      rcases List.mem_append.1 hg with h | h
      · exact HBS.out g h
      · rw [List.mem_singleton.1 h]; exact HQ.out
    · obtain rfl : k = 0 := by omega
      obtain ⟨c0, c1⟩ := HN.out.facts
      have hm0 : 0 < m := by have := HMK.out; omega
      obtain ⟨bb, hbb, hsb⟩ := Sl.of_own (enc := encI) encI_len HML.out HO.out
      have HSB := Lib.hid hsb
      have HCB := Lib.hid (own_cap HO.out)
      have hbz : bb < wr.heap.size := hsb.lt hm0
      clear hsb
      go_wp2_with fail
      refine (copyInts_any bb m c A bs _ HSB.out (by omega)).mono ?_
      rintro e w2 ⟨Ah, ch, rfl, hoh, hb2⟩
      obtain ⟨Bh, rfl, hBh, hrow⟩ := RowC.of_own hoh HML.out hm0
      have HN2 := Lib.hid (HN.out.below hb2)
      have HSB2 := Lib.hid (HSB.out.old hb2)
      have HR2 := Lib.hid hrow
      have hz2 := hb2.size
      have hBhz := hrow.lt
      clear hoh hb2 hrow c0 c1
      go_wp2_with fail
      refine (cast_any d ((M : Int) + 1) _ HN2.out.die (by omega)).mono ?_
      rintro e w3 ⟨K1, ⟨hk4, hk5, hk6⟩, rfl, hd3, hg3⟩
      have hk7 : K1 ≤ M := by by_cases h : (M : Int) + 1 < 2 <;> omega
      obtain ⟨K1, rfl⟩ := Int.eq_ofNat_of_zero_le hk4
      have HN3 := Lib.hid (HN2.out.die_ hd3 hg3)
      have HSB3 := Lib.hid (HSB2.out.grown hg3 (fun _ e => by injection e; omega))
      have HR3 := Lib.hid (HR2.out.grown hg3 (fun e => by injection e; omega))
      have hz3 := hg3.size
      clear hk5 hk6 hd3 hg3
      have HNI0 := Lib.hid (show NetIn bs [] from ⟨by have := HML.out; omega, by have := HML.out; omega, fun g hg => ⟨(HBS.out g hg).1, by have := (HBS.out g hg).2; omega⟩, by simp, trivial⟩)
      go_wp2_with fail
      go_loopw [12] (fun i wi => ∃ (k nm cm : Nat) (Am : Option Addr) (ms : List Mv), i = .int .i64 k ∧ nm + k ≤ K1 ∧ nm = ms.length ∧ NetIn bs ms ∧ w3.heap.size ≤ wi.heap.size ∧ NSt w wi d (.slice A m c) (.slice Am nm cm) ∧ Sl encI 1 wi bb A m bs ∧ RowC wi Bh ((rg m).map (hasAt (bsF bs) ms)) ∧ wi.ownsRow w3.heap.size 70 3 (.slice Am nm cm) nm (ms.flatMap encM)) (fun i _ => (intOf i).toNat)
      case atStart => exact ⟨K1, 0, 0, none, [], rfl, by omega, rfl, HNI0.out, Nat.le_refl _, HN3.out, HSB3.out, by rw [HML.out]; show RowC w3 Bh ((rg bs.length).map (bsF bs)); rw [has_start]; exact HR3.out, World.ownsRow_nil _ _ _ _⟩
      case round =>
        obtain ⟨k, nm, cm, Am, ms, rfl, hnk, hnl, hNI, hOz, hN, hS, hR, hO⟩ := hrel
        have HNK := Lib.hid hnk
        have HNL := Lib.hid hnl
        have HNI := Lib.hid hNI
        have HNx := Lib.hid hN
        have HSx := Lib.hid hS
        have HRx := Lib.hid hR
        have HOx := Lib.hid hO
        have hk12 : k ≤ 12 := by omega
        have hnm12 : nm ≤ 12 := by omega
        have HZ3 := Lib.hid (show w3.heap.size ≤ wr.heap.size from hOz)
        obtain ⟨c0, c1⟩ := hN.facts
        clear hnk hnl hNI hN hS hR hO
        by_cases hk0 : 0 < k
        · have HK0 := Lib.hid hk0
          by_cases hm1 : 1 < m
          · as_aux_lemma =>
            have hmi : decide ((1 : Int) < (m : Int)) = true := by simp; omega
            go_wp2_with fail
            refine (cast_any d m _ HNx.out.die (by omega)).mono ?_
            rintro e w4 ⟨f, ⟨hf0, _, hf2⟩, rfl, hd4, hg4⟩
            have hf3 := hf2 (by omega)
            obtain ⟨f, rfl⟩ := Int.eq_ofNat_of_zero_le hf0
            have hz4 := hg4.size
            have hNR0 : NR w wr d w3.heap.size wr.heap.size A m c Am nm cm bb Bh bs ((rg m).map (hasAt (bsF bs) ms)) ms :=
              ⟨HNx.out, HSx.out, HRx.out, HOx.out, fun g e => (HOx.out.lt g e).2, Nat.le_refl _, ⟨by omega, HZ3.out, by omega, by omega, by omega, by omega, by omega⟩⟩
            have hN5 := ((hNR0.step hg4 hd4 (fun r e => by cases e; exact .inl rfl)).alloc (.cells #[.int .i64 f, .int .i64 0, .int .i64 0] 70)).drew
            have hM5 := (Blk.new w4 70 #[.int .i64 f, .int .i64 0, .int .i64 0]).drew
            obtain ⟨B13, hB13⟩ : ∃ B, B = w4.heap.size := ⟨_, rfl⟩
            go_upto_region 11 with fail
            obtain ⟨W5, hW5⟩ : ∃ W5, w4.alloc (.cells #[.int .i64 f, .int .i64 0, .int .i64 0] 70) = W5 := ⟨_, rfl⟩
            rw [hW5] at hN5 hM5 ⊢
            rw [← hB13] at hM5 ⊢
            have hb13 : wr.heap.size ≤ B13 := by omega
            have HNK2 := Lib.hid hf2
            clear hNR0 hd4 hg4 hW5 hB13 hf2 HNx HSx HRx HOx c0 c1
            have HM1W := Lib.hid (show IntKind.i64.wrap ((m : Int) - 1) = (m : Int) - 1 from IntWalk.i64_in _ (by omega))
            refine wp_region_PL [1] (fun W => W.cell? ⟨B13, 0, none⟩ = some (.int .i64 f)) rfl (by kernel_rfl) (hM5.cell 0) (fun hF0 => ?_)
            (refine wpAnyP_takeL (i := 0) (v := ?_) rfl (by kernel_rfl) (by kernel_rfl) (by kernel_rfl) (fun _ _ _ h => h) (by rfl) ?_ ?_; rotate_left 1; focus (intro w; go_simp; try with_reducible rfl))
            try simp only [Act.put, List.setIfInBounds_toArray, List.set_cons_zero, List.set_cons_succ]
            (refine wpAnyP_loadL (i := 1) (v := ?_) rfl (by kernel_rfl) (by kernel_rfl) (by kernel_rfl) (by rfl) (fun _ _ _ h => h) hF0 (by rfl) ?_ ?_; rotate_left 1; focus (intro w hFw; (try dsimp only at hFw); go_split_ands; go_simp; try with_reducible rfl))
            try simp only [Act.put, List.setIfInBounds_toArray, List.set_cons_zero, List.set_cons_succ]
            (refine wpAnyP_takeL (i := 2) (v := ?_) rfl (by kernel_rfl) (by kernel_rfl) (by kernel_rfl) (fun _ _ _ h => h) (by rfl) ?_ ?_; rotate_left 1; focus (intro w; go_simp; try with_reducible rfl))
            try simp only [Act.put, List.setIfInBounds_toArray, List.set_cons_zero, List.set_cons_succ]
            (refine wpAnyP_takeL (i := 3) (v := ?_) rfl (by kernel_rfl) (by kernel_rfl) (by kernel_rfl) (fun _ _ _ h => h) (by rfl) ?_ ?_; rotate_left 1; focus (intro w; go_simp; try with_reducible rfl))
            try simp only [Act.put, List.setIfInBounds_toArray, List.set_cons_zero, List.set_cons_succ]
            (refine wpAnyP_takeL (i := 4) (v := ?_) rfl (by kernel_rfl) (by kernel_rfl) (by kernel_rfl) (fun _ _ _ h => h) (by rfl) ?_ ?_; rotate_left 1; focus (intro w; go_simp; try with_reducible rfl))
            try simp only [Act.put, List.setIfInBounds_toArray, List.set_cons_zero, List.set_cons_succ]
            (refine wpAnyP_takeL (i := 5) (v := ?_) rfl (by kernel_rfl) (by kernel_rfl) (by kernel_rfl) (fun _ _ _ h => h) (by rfl) ?_ ?_; rotate_left 1; focus (intro w; go_simp; (first | (rw [HM1W.out]) | (with_reducible rfl))))
            try simp only [Act.put, List.setIfInBounds_toArray, List.set_cons_zero, List.set_cons_succ]
            (refine wpAnyP_takeL (i := 8) (v := ?_) rfl (by kernel_rfl) (by kernel_rfl) (by kernel_rfl) (fun _ _ _ h => h) (by rfl) ?_ ?_; rotate_left 1; focus (intro w; go_simp; try with_reducible rfl))
            try simp only [Act.put, List.setIfInBounds_toArray, List.set_cons_zero, List.set_cons_succ]
            (refine wpAnyP_takeL (i := 9) (v := ?_) rfl (by kernel_rfl) (by kernel_rfl) (by kernel_rfl) (fun _ _ _ h => h) (by rfl) ?_ ?_; rotate_left 1; focus (intro w; go_simp; try with_reducible rfl))
            try simp only [Act.put, List.setIfInBounds_toArray, List.set_cons_zero, List.set_cons_succ]
            refine wpAnyP_step (i := 6) rfl (by kernel_rfl) (by rfl) (fun K hK => ?_)
            go_simp
            (refine (from_any d 1 ((m : Int) - 1) _ hN5.n.die (by omega) (by omega) (by omega) (by omega)).mono ?_; rintro e w6 ⟨r, ⟨hr0, hr1, _⟩, rfl, hd6, hg6⟩; have hr2 := hr1 (by omega); have hN6 := hN5.step hg6 hd6 (fun r e => by cases e; exact .inl rfl); have hM6 := hM5.grown hg6 (fun e => by injection e; omega); have HFR := Lib.hid (show IntKind.i64.wrap ((f : Int) + r) = (f : Int) + r from IntWalk.i64_in _ (by omega)))
            (refine hK _ _ (hM6.cell 0) (fun hF1 => ?_); clear hK K hF0)
            try simp only [Act.put, List.setIfInBounds_toArray, List.set_cons_zero, List.set_cons_succ]
            (refine wpAnyP_takeL (i := 7) (v := ?_) rfl (by kernel_rfl) (by kernel_rfl) (by kernel_rfl) (fun _ _ _ h => h) (by rfl) ?_ ?_; rotate_left 1; focus (intro w; go_simp; (first | (rw [HFR.out]) | (with_reducible rfl))))
            try simp only [Act.put, List.setIfInBounds_toArray, List.set_cons_zero, List.set_cons_succ]
            refine wpAnyP_step (i := 10) rfl (by kernel_rfl) (by rfl) (fun K hK => ?_)
            go_simp
            (refine (bring_any ((f : Int) + r) m _ (by omega) (by omega) (by omega)).mono ?_; rintro e w7 ⟨rfl, rfl⟩)
            (refine hK _ _ (hM6.cell 0) (fun hF2 => ?_); clear hK K hF1)
            try simp only [Act.put, List.setIfInBounds_toArray, List.set_cons_zero, List.set_cons_succ]
            (refine wpAnyP_takeL (i := 11) (v := ?_) rfl (by kernel_rfl) (by kernel_rfl) (by kernel_rfl) (fun _ _ _ h => h) (by rfl) ?_ ?_; rotate_left 1; focus (intro w; go_simp; try with_reducible rfl))
            try simp only [Act.put, List.setIfInBounds_toArray, List.set_cons_zero, List.set_cons_succ]
            refine wpAnyP_last (i := 12) rfl (by kernel_rfl) (by kernel_rfl) (by rfl) (fun K hK => ?_)
            go_simp
            (have f1 := hM6.frozen 1; have e1 := hM6.cell 1; go_simp)
            (refine hK _ _ ?_; clear hK K)
            try simp only [Act.put, List.setIfInBounds_toArray, List.set_cons_zero, List.set_cons_succ]
            refine wpAnyP_done (by kernel_rfl) ?_ _
            have hbr := bring_bd (x := (f : Int) + r) (n := (m : Int)) (by omega)
            have hbn := bring_ne (f := (f : Int)) (r := r) (m := (m : Int)) (by omega) (by omega) hr0 (by omega)
            generalize bring ((f : Int) + r) (m : Int) = t at hbr hbn ⊢
            obtain ⟨ht0, ht1⟩ := hbr
            obtain ⟨t, rfl⟩ := Int.eq_ofNat_of_zero_le ht0
            have hN7 := hN6.step (grown_cell w6 ⟨B13, 1, none⟩ (.int .i64 t)) (hN6.n.die.keep (Below.heap_setCell _ _ _ _ (by show d ≠ B13; omega))) (fun r e => by cases e; exact .inr hb13)
            have hM7 := hM6.set_ 1 (.int .i64 t)
            obtain ⟨W7, hW7⟩ : ∃ W7, w6.setCell ⟨B13, 1, none⟩ (.int .i64 t) = W7 := ⟨_, rfl⟩
            rw [hW7] at hN7 hM7 ⊢
            have hlen := has_len m (hasAt (bsF bs) ms)
            have hcf := hN7.r.cell (k := f) (by rw [hlen]; omega)
            rw [has_get (by omega)] at hcf
            have hct := hN7.r.cell (k := t) (by rw [hlen]; omega)
            rw [has_get (by omega)] at hct
            obtain ⟨bf0, bf1⟩ := HNI.out.bd (f : Int)
            obtain ⟨bt0, bt1⟩ := HNI.out.bd (t : Int)
            obtain ⟨hf, hhf⟩ : ∃ x, x = hasAt (bsF bs) ms f := ⟨_, rfl⟩
            obtain ⟨ht, hht⟩ : ∃ x, x = hasAt (bsF bs) ms t := ⟨_, rfl⟩
            rw [← hhf] at hcf bf0 bf1
            rw [← hht] at hct bt0 bt1
            have HHF := Lib.hid hhf
            have HHT := Lib.hid hht
            have m0 := hM7.cell 0
            have HN7 := Lib.hid hN7
            have HM7 := Lib.hid hM7
            have if0 : (0 : Int) ≤ (f : Int) := by omega
            have if1 : (f : Int) < (m : Int) := by omega
            have it1 : (t : Int) < (m : Int) := by omega
            clear hN5 hM5 hN6 hM6 hr1 hd6 hg6 hW7 hhf hht hN7 hM7 e1 f1
            by_cases hfz : hf = 0
            · have hfzb : (hf == 0) = true := by simp [hfz]
              go_wp2_with fail
              refine ⟨⟨k - 1, nm, cm, Am, ms, by rw [show ((k - 1 : Nat) : Int) = (k : Int) - 1 from by have := HK0.out; omega], by have := HNK.out; omega, HNL.out, HNI.out, Nat.le_trans HZ3.out HN7.out.zz, HN7.out.n, HN7.out.s, HN7.out.r, HN7.out.o⟩, by simp [intOf]; omega⟩
            · have hfzb : (hf == 0) = false := by simp [hfz]
              have hf1' : 1 ≤ hf := by omega
              have HFZ := Lib.hid hfz
              clear hfz
              go_upto_region 13 with fail
              have hN8 := HN7.out.drew
              have hM8 := HM7.out.drew
              have hcf8 := hcf
              refine wp_region_PL [3, 5, 9, 11] (fun W => W.cell? ⟨B13, 0, none⟩ = some (.int .i64 f) ∧ W.cell? ⟨Bh, f, none⟩ = some (.int .i64 hf)) rfl (by kernel_rfl) (⟨hM8.cell 0, hcf8⟩) (fun hF0 => ?_)
              (refine wpAnyP_takeL (i := 0) (v := ?_) rfl (by kernel_rfl) (by kernel_rfl) (by kernel_rfl) (fun _ _ _ h => h) (by rfl) ?_ ?_; rotate_left 1; focus (intro w; go_simp; try with_reducible rfl))
              try simp only [Act.put, List.setIfInBounds_toArray, List.set_cons_zero, List.set_cons_succ]
              (refine wpAnyP_takeL (i := 1) (v := ?_) rfl (by kernel_rfl) (by kernel_rfl) (by kernel_rfl) (fun _ _ _ h => h) (by rfl) ?_ ?_; rotate_left 1; focus (intro w; go_simp; try with_reducible rfl))
              try simp only [Act.put, List.setIfInBounds_toArray, List.set_cons_zero, List.set_cons_succ]
              (refine wpAnyP_takeL (i := 2) (v := ?_) rfl (by kernel_rfl) (by kernel_rfl) (by kernel_rfl) (fun _ _ _ h => h) (by rfl) ?_ ?_; rotate_left 1; focus (intro w; go_simp; try with_reducible rfl))
              try simp only [Act.put, List.setIfInBounds_toArray, List.set_cons_zero, List.set_cons_succ]
              (refine wpAnyP_loadL (i := 3) (v := ?_) rfl (by kernel_rfl) (by kernel_rfl) (by kernel_rfl) (by rfl) (fun _ _ _ h => h) hF0 (by rfl) ?_ ?_; rotate_left 1; focus (intro w hFw; (try dsimp only at hFw); go_split_ands; go_simp; try with_reducible rfl))
              try simp only [Act.put, List.setIfInBounds_toArray, List.set_cons_zero, List.set_cons_succ]
              (refine wpAnyP_takeL (i := 4) (v := ?_) rfl (by kernel_rfl) (by kernel_rfl) (by kernel_rfl) (fun _ _ _ h => h) (by rfl) ?_ ?_; rotate_left 1; focus (intro w; go_simp; try with_reducible rfl))
              try simp only [Act.put, List.setIfInBounds_toArray, List.set_cons_zero, List.set_cons_succ]
              (refine wpAnyP_loadL (i := 5) (v := ?_) rfl (by kernel_rfl) (by kernel_rfl) (by kernel_rfl) (by rfl) (fun _ _ _ h => h) hF0 (by rfl) ?_ ?_; rotate_left 1; focus (intro w hFw; (try dsimp only at hFw); go_split_ands; go_simp; try with_reducible rfl))
              try simp only [Act.put, List.setIfInBounds_toArray, List.set_cons_zero, List.set_cons_succ]
              (refine wpAnyP_takeL (i := 6) (v := ?_) rfl (by kernel_rfl) (by kernel_rfl) (by kernel_rfl) (fun _ _ _ h => h) (by rfl) ?_ ?_; rotate_left 1; focus (intro w; go_simp; try with_reducible rfl))
              try simp only [Act.put, List.setIfInBounds_toArray, List.set_cons_zero, List.set_cons_succ]
              (refine wpAnyP_takeL (i := 7) (v := ?_) rfl (by kernel_rfl) (by kernel_rfl) (by kernel_rfl) (fun _ _ _ h => h) (by rfl) ?_ ?_; rotate_left 1; focus (intro w; go_simp; try with_reducible rfl))
              try simp only [Act.put, List.setIfInBounds_toArray, List.set_cons_zero, List.set_cons_succ]
              (refine wpAnyP_takeL (i := 8) (v := ?_) rfl (by kernel_rfl) (by kernel_rfl) (by kernel_rfl) (fun _ _ _ h => h) (by rfl) ?_ ?_; rotate_left 1; focus (intro w; go_simp; try with_reducible rfl))
              try simp only [Act.put, List.setIfInBounds_toArray, List.set_cons_zero, List.set_cons_succ]
              (refine wpAnyP_loadL (i := 9) (v := ?_) rfl (by kernel_rfl) (by kernel_rfl) (by kernel_rfl) (by rfl) (fun _ _ _ h => h) hF0 (by rfl) ?_ ?_; rotate_left 1; focus (intro w hFw; (try dsimp only at hFw); go_split_ands; go_simp; try with_reducible rfl))
              try simp only [Act.put, List.setIfInBounds_toArray, List.set_cons_zero, List.set_cons_succ]
              (refine wpAnyP_takeL (i := 10) (v := ?_) rfl (by kernel_rfl) (by kernel_rfl) (by kernel_rfl) (fun _ _ _ h => h) (by rfl) ?_ ?_; rotate_left 1; focus (intro w; go_simp; try with_reducible rfl))
              try simp only [Act.put, List.setIfInBounds_toArray, List.set_cons_zero, List.set_cons_succ]
              (refine wpAnyP_loadL (i := 11) (v := ?_) rfl (by kernel_rfl) (by kernel_rfl) (by kernel_rfl) (by rfl) (fun _ _ _ h => h) hF0 (by rfl) ?_ ?_; rotate_left 1; focus (intro w hFw; (try dsimp only at hFw); go_split_ands; go_simp; try with_reducible rfl))
              try simp only [Act.put, List.setIfInBounds_toArray, List.set_cons_zero, List.set_cons_succ]
              refine wpAnyP_step (i := 12) rfl (by kernel_rfl) (by rfl) (fun K hK => ?_)
              go_simp
              (refine (from_any d 1 hf _ hN8.n.die (by omega) (by omega) (by omega) (by omega)).mono ?_; rintro e w9 ⟨x, ⟨hx0, hx1, _⟩, rfl, hd9, hg9⟩; have hx2 := hx1 (by omega); have hN9 := hN8.step hg9 hd9 (fun r e => by cases e; exact .inl rfl); have hM9 := hM8.grown hg9 (fun e => by injection e; omega); have hcf9 := hN9.r.cell (k := f) (by rw [hlen]; omega); rw [has_get (by omega), ← HHF.out] at hcf9; have hNA := hN9.alloc (.cells #[.int .i64 hf, .int .i64 x] 3); have hMA := hM9.alloc (.cells #[.int .i64 hf, .int .i64 x] 3); have hcfA := hNA.r.cell (k := f) (by rw [hlen]; omega); rw [has_get (by omega), ← HHF.out] at hcfA)
              (refine hK _ _ (⟨hM9.cell 0, hcf9⟩) (fun hF1 => ?_); clear hK K hF0)
              try simp only [Act.put, List.setIfInBounds_toArray, List.set_cons_zero, List.set_cons_succ]
              refine wpAnyP_step (i := 13) rfl (by kernel_rfl) (by rfl) (fun K hK => ?_)
              go_simp
              (refine hK _ _ (⟨hMA.cell 0, hcfA⟩) (fun hF2 => ?_); clear hK K hF1)
              try simp only [Act.put, List.setIfInBounds_toArray, List.set_cons_zero, List.set_cons_succ]
              refine wpAnyP_step (i := 14) rfl (by kernel_rfl) (by rfl) (fun K hK => ?_)
              go_simp
              (refine (one_any d _ 2 2 _ [hf, x] _ hNA.n.die (Sl.newI w9 [hf, x] _) (by omega) (by omega) (by have := hN9.n.die.lt; omega)).mono ?_; rintro e w10 ⟨g, hg, rfl, hd10, hg10⟩; have hN10 := hNA.step hg10 hd10 (fun r e => by cases e; exact .inl rfl); have hM10 := hMA.grown hg10 (fun e => by injection e; omega); have hcf10 := hN10.r.cell (k := f) (by rw [hlen]; omega); rw [has_get (by omega), ← HHF.out] at hcf10)
              (refine hK _ _ (⟨hM10.cell 0, hcf10⟩) (fun hF3 => ?_); clear hK K hF2)
              try simp only [Act.put, List.setIfInBounds_toArray, List.set_cons_zero, List.set_cons_succ]
              (refine wpAnyP_takeL (i := 15) (v := ?_) rfl (by kernel_rfl) (by kernel_rfl) (by kernel_rfl) (fun _ _ _ h => h) (by rfl) ?_ ?_; rotate_left 1; focus (intro w; go_simp; try with_reducible rfl))
              try simp only [Act.put, List.setIfInBounds_toArray, List.set_cons_zero, List.set_cons_succ]
              refine wpAnyP_last (i := 16) rfl (by kernel_rfl) (by kernel_rfl) (by rfl) (fun K hK => ?_)
              go_simp
              (have f2 := hM10.frozen 2; have e2 := hM10.cell 2; go_simp)
              (refine hK _ _ ?_; clear hK K)
              try simp only [Act.put, List.setIfInBounds_toArray, List.set_cons_zero, List.set_cons_succ]
              refine wpAnyP_done (by kernel_rfl) ?_ _
              have hgb : 1 ≤ g ∧ g ≤ hf := by simp at hg; omega
              obtain ⟨hg0, hg1⟩ := hgb
              have hN11 := hN10.step (grown_cell w10 ⟨B13, 2, none⟩ (.int .i64 g)) (hN10.n.die.keep (Below.heap_setCell _ _ _ _ (by show d ≠ B13; omega))) (fun r e => by cases e; exact .inr hb13)
              have hM11 := hM10.set_ 2 (.int .i64 g)
              obtain ⟨W11, hW11⟩ : ∃ W11, w10.setCell ⟨B13, 2, none⟩ (.int .i64 g) = W11 := ⟨_, rfl⟩
              rw [hW11] at hN11 hM11 ⊢
              have HN11 := Lib.hid hN11
              have HM11 := Lib.hid hM11
              clear hN8 hM8 hcf8 hN9 hM9 hcf9 hNA hMA hcfA hN10 hM10 hcf10 hx1 hd9 hg9 hd10 hg10 hg hW11 hN11 hM11 e2 f2 hcf hct m0
              have it0 : (0 : Int) ≤ (t : Int) := by omega
              go_upto_region 14 with fail
              have hN12 := HN11.out.drew
              have hM12 := HM11.out.drew
              have hc1 := hN12.r.cell (k := f) (by rw [hlen]; omega)
              rw [has_get (by omega), ← HHF.out] at hc1
              have hc2 := hN12.r.cell (k := t) (by rw [hlen]; omega)
              rw [has_get (by omega), ← HHT.out] at hc2
              have hA := hN12.set_ (k := f) (by rw [hlen]; omega) (hf - g)
              have hMA := hM12.far (p := ⟨Bh, f, none⟩) (by show B13 ≠ Bh; omega) (.int .i64 (hf - g))
              have hcA := hA.r.cell (k := t) (by rw [List.length_set, hlen]; omega)
              rw [List.getElem_set, if_neg (by omega), has_get (by omega), ← HHT.out] at hcA
              have hB := hA.set_ (k := t) (by rw [List.length_set, hlen]; omega) (ht + g)
              have hMB := hMA.far (p := ⟨Bh, t, none⟩) (by show B13 ≠ Bh; omega) (.int .i64 (ht + g))
              have HA := Lib.hid hA
              have HMA := Lib.hid hMA
              have HB := Lib.hid hB
              have HMB := Lib.hid hMB
              have HC := Lib.hid (And.intro hc1 hc2)
              have HCA := Lib.hid hcA
              have HN12 := Lib.hid hN12
              have HM12 := Lib.hid hM12
              have HW1 := Lib.hid (show IntKind.i64.wrap (hf - g) = hf - g from IntWalk.i64_in _ (by omega))
              have HW2 := Lib.hid (show IntKind.i64.wrap (ht + g) = ht + g from IntWalk.i64_in _ (by omega))
              clear hA hMA hB hMB hc1 hc2 hcA hN12 hM12
              refine wp_region_K2 [10, 18] [2, 5, 8, 12, 16, 20] (fun W => W.cell? ⟨Bh, f, none⟩ = some (.int .i64 hf) ∧ W.cell? ⟨Bh, t, none⟩ = some (.int .i64 ht)) (fun W => W.cell? ⟨B13, 0, none⟩ = some (.int .i64 f) ∧ W.cell? ⟨B13, 1, none⟩ = some (.int .i64 t) ∧ W.cell? ⟨B13, 2, none⟩ = some (.int .i64 g)) rfl (by kernel_rfl) (HC.out) (⟨HM12.out.cell 0, HM12.out.cell 1, HM12.out.cell 2⟩) (fun hF0 hG0 => ?_)
              (refine wpAnyK_takeL Keep2.refl (i := 0) (v := ?_) rfl (by kernel_rfl) (by kernel_rfl) (by kernel_rfl) (fun _ _ _ h => h) (by rfl) ?_ ?_; rotate_left 1; focus (intro w; go_simp; try with_reducible rfl))
              try simp only [Act.put, List.setIfInBounds_toArray, List.set_cons_zero, List.set_cons_succ]
              (refine wpAnyK_takeL Keep2.refl (i := 1) (v := ?_) rfl (by kernel_rfl) (by kernel_rfl) (by kernel_rfl) (fun _ _ _ h => h) (by rfl) ?_ ?_; rotate_left 1; focus (intro w; go_simp; try with_reducible rfl))
              try simp only [Act.put, List.setIfInBounds_toArray, List.set_cons_zero, List.set_cons_succ]
              (refine wpAnyK_loadL Keep2.refl (i := 2) (v := ?_) rfl (Keep2.right (i := 2) (by rfl)) (by kernel_rfl) (by kernel_rfl) (by kernel_rfl) (fun _ _ _ h => h) hG0 (by rfl) ?_ ?_; rotate_left 1; focus (intro w hFw; (try dsimp only at hFw); go_split_ands; go_simp; try with_reducible rfl))
              try simp only [Act.put, List.setIfInBounds_toArray, List.set_cons_zero, List.set_cons_succ]
              (refine wpAnyK_takeL Keep2.refl (i := 3) (v := ?_) rfl (by kernel_rfl) (by kernel_rfl) (by kernel_rfl) (fun _ _ _ h => h) (by rfl) ?_ ?_; rotate_left 1; focus (intro w; go_simp; try with_reducible rfl))
              try simp only [Act.put, List.setIfInBounds_toArray, List.set_cons_zero, List.set_cons_succ]
              (refine wpAnyK_takeL Keep2.refl (i := 4) (v := ?_) rfl (by kernel_rfl) (by kernel_rfl) (by kernel_rfl) (fun _ _ _ h => h) (by rfl) ?_ ?_; rotate_left 1; focus (intro w; go_simp; try with_reducible rfl))
              try simp only [Act.put, List.setIfInBounds_toArray, List.set_cons_zero, List.set_cons_succ]
              (refine wpAnyK_loadL Keep2.refl (i := 5) (v := ?_) rfl (Keep2.right (i := 5) (by rfl)) (by kernel_rfl) (by kernel_rfl) (by kernel_rfl) (fun _ _ _ h => h) hG0 (by rfl) ?_ ?_; rotate_left 1; focus (intro w hFw; (try dsimp only at hFw); go_split_ands; go_simp; try with_reducible rfl))
              try simp only [Act.put, List.setIfInBounds_toArray, List.set_cons_zero, List.set_cons_succ]
              (refine wpAnyK_takeL Keep2.refl (i := 6) (v := ?_) rfl (by kernel_rfl) (by kernel_rfl) (by kernel_rfl) (fun _ _ _ h => h) (by rfl) ?_ ?_; rotate_left 1; focus (intro w; go_simp; try with_reducible rfl))
              try simp only [Act.put, List.setIfInBounds_toArray, List.set_cons_zero, List.set_cons_succ]
              (refine wpAnyK_takeL Keep2.refl (i := 7) (v := ?_) rfl (by kernel_rfl) (by kernel_rfl) (by kernel_rfl) (fun _ _ _ h => h) (by rfl) ?_ ?_; rotate_left 1; focus (intro w; go_simp; try with_reducible rfl))
              try simp only [Act.put, List.setIfInBounds_toArray, List.set_cons_zero, List.set_cons_succ]
              (refine wpAnyK_loadL Keep2.refl (i := 8) (v := ?_) rfl (Keep2.right (i := 8) (by rfl)) (by kernel_rfl) (by kernel_rfl) (by kernel_rfl) (fun _ _ _ h => h) hG0 (by rfl) ?_ ?_; rotate_left 1; focus (intro w hFw; (try dsimp only at hFw); go_split_ands; go_simp; try with_reducible rfl))
              try simp only [Act.put, List.setIfInBounds_toArray, List.set_cons_zero, List.set_cons_succ]
              (refine wpAnyK_takeL Keep2.refl (i := 9) (v := ?_) rfl (by kernel_rfl) (by kernel_rfl) (by kernel_rfl) (fun _ _ _ h => h) (by rfl) ?_ ?_; rotate_left 1; focus (intro w; go_simp; try with_reducible rfl))
              try simp only [Act.put, List.setIfInBounds_toArray, List.set_cons_zero, List.set_cons_succ]
              (refine wpAnyK_loadL Keep2.refl (i := 10) (v := ?_) rfl (Keep2.left (i := 10) (by rfl)) (by kernel_rfl) (by kernel_rfl) (by kernel_rfl) (fun _ _ _ h => h) hF0 (by rfl) ?_ ?_; rotate_left 1; focus (intro w hFw; (try dsimp only at hFw); go_split_ands; go_simp; try with_reducible rfl))
              try simp only [Act.put, List.setIfInBounds_toArray, List.set_cons_zero, List.set_cons_succ]
              (refine wpAnyK_takeL Keep2.refl (i := 11) (v := ?_) rfl (by kernel_rfl) (by kernel_rfl) (by kernel_rfl) (fun _ _ _ h => h) (by rfl) ?_ ?_; rotate_left 1; focus (intro w; go_simp; try with_reducible rfl))
              try simp only [Act.put, List.setIfInBounds_toArray, List.set_cons_zero, List.set_cons_succ]
              (refine wpAnyK_loadL Keep2.refl (i := 12) (v := ?_) rfl (Keep2.right (i := 12) (by rfl)) (by kernel_rfl) (by kernel_rfl) (by kernel_rfl) (fun _ _ _ h => h) hG0 (by rfl) ?_ ?_; rotate_left 1; focus (intro w hFw; (try dsimp only at hFw); go_split_ands; go_simp; try with_reducible rfl))
              try simp only [Act.put, List.setIfInBounds_toArray, List.set_cons_zero, List.set_cons_succ]
              (refine wpAnyK_takeL Keep2.refl (i := 13) (v := ?_) rfl (by kernel_rfl) (by kernel_rfl) (by kernel_rfl) (fun _ _ _ h => h) (by rfl) ?_ ?_; rotate_left 1; focus (intro w; go_simp; (first | (rw [HW1.out]) | (with_reducible rfl))))
              try simp only [Act.put, List.setIfInBounds_toArray, List.set_cons_zero, List.set_cons_succ]
              (refine wpAnyK_takeL Keep2.refl (i := 14) (v := ?_) rfl (by kernel_rfl) (by kernel_rfl) (by kernel_rfl) (fun _ _ _ h => h) (by rfl) ?_ ?_; rotate_left 1; focus (intro w; go_simp; try with_reducible rfl))
              try simp only [Act.put, List.setIfInBounds_toArray, List.set_cons_zero, List.set_cons_succ]
              (refine wpAnyK_takeL Keep2.refl (i := 15) (v := ?_) rfl (by kernel_rfl) (by kernel_rfl) (by kernel_rfl) (fun _ _ _ h => h) (by rfl) ?_ ?_; rotate_left 1; focus (intro w; go_simp; try with_reducible rfl))
              try simp only [Act.put, List.setIfInBounds_toArray, List.set_cons_zero, List.set_cons_succ]
              (refine wpAnyK_loadL Keep2.refl (i := 16) (v := ?_) rfl (Keep2.right (i := 16) (by rfl)) (by kernel_rfl) (by kernel_rfl) (by kernel_rfl) (fun _ _ _ h => h) hG0 (by rfl) ?_ ?_; rotate_left 1; focus (intro w hFw; (try dsimp only at hFw); go_split_ands; go_simp; try with_reducible rfl))
              try simp only [Act.put, List.setIfInBounds_toArray, List.set_cons_zero, List.set_cons_succ]
              (refine wpAnyK_takeL Keep2.refl (i := 17) (v := ?_) rfl (by kernel_rfl) (by kernel_rfl) (by kernel_rfl) (fun _ _ _ h => h) (by rfl) ?_ ?_; rotate_left 1; focus (intro w; go_simp; try with_reducible rfl))
              try simp only [Act.put, List.setIfInBounds_toArray, List.set_cons_zero, List.set_cons_succ]
              (refine wpAnyK_loadL Keep2.refl (i := 18) (v := ?_) rfl (Keep2.left (i := 18) (by rfl)) (by kernel_rfl) (by kernel_rfl) (by kernel_rfl) (fun _ _ _ h => h) hF0 (by rfl) ?_ ?_; rotate_left 1; focus (intro w hFw; (try dsimp only at hFw); go_split_ands; go_simp; try with_reducible rfl))
              try simp only [Act.put, List.setIfInBounds_toArray, List.set_cons_zero, List.set_cons_succ]
              (refine wpAnyK_takeL Keep2.refl (i := 19) (v := ?_) rfl (by kernel_rfl) (by kernel_rfl) (by kernel_rfl) (fun _ _ _ h => h) (by rfl) ?_ ?_; rotate_left 1; focus (intro w; go_simp; try with_reducible rfl))
              try simp only [Act.put, List.setIfInBounds_toArray, List.set_cons_zero, List.set_cons_succ]
              (refine wpAnyK_loadL Keep2.refl (i := 20) (v := ?_) rfl (Keep2.right (i := 20) (by rfl)) (by kernel_rfl) (by kernel_rfl) (by kernel_rfl) (fun _ _ _ h => h) hG0 (by rfl) ?_ ?_; rotate_left 1; focus (intro w hFw; (try dsimp only at hFw); go_split_ands; go_simp; try with_reducible rfl))
              try simp only [Act.put, List.setIfInBounds_toArray, List.set_cons_zero, List.set_cons_succ]
              (refine wpAnyK_takeL Keep2.refl (i := 21) (v := ?_) rfl (by kernel_rfl) (by kernel_rfl) (by kernel_rfl) (fun _ _ _ h => h) (by rfl) ?_ ?_; rotate_left 1; focus (intro w; go_simp; (first | (rw [HW2.out]) | (with_reducible rfl))))
              try simp only [Act.put, List.setIfInBounds_toArray, List.set_cons_zero, List.set_cons_succ]
              (refine wpAnyK_takeL Keep2.refl (i := 22) (v := ?_) rfl (by kernel_rfl) (by kernel_rfl) (by kernel_rfl) (fun _ _ _ h => h) (by rfl) ?_ ?_; rotate_left 1; focus (intro w; go_simp; try with_reducible rfl))
              try simp only [Act.put, List.setIfInBounds_toArray, List.set_cons_zero, List.set_cons_succ]
              refine wpAnyK_step (i := 23) rfl (by kernel_rfl) (by rfl) (fun K hK => ?_)
              go_simp
              (have f1 := HN11.out.r.frozen f; have e1 := HC.out.1; go_simp; clear f1 e1)
              (refine hK _ _ (Keep2.no1 (by kernel_rfl) (fun _ => ⟨HMA.out.cell 0, HMA.out.cell 1, HMA.out.cell 2⟩)) ?_; clear hK K)
              (refine wpAnyK_with (F := fun W => W.cell? ⟨B13, 0, none⟩ = some (.int .i64 f) ∧ W.cell? ⟨B13, 1, none⟩ = some (.int .i64 t) ∧ W.cell? ⟨B13, 2, none⟩ = some (.int .i64 g)) (⟨HMA.out.cell 0, HMA.out.cell 1, HMA.out.cell 2⟩) (fun hG1 => ?_); clear hG0)
              try simp only [Act.put, List.setIfInBounds_toArray, List.set_cons_zero, List.set_cons_succ]
              (refine wpAnyK_takeL Keep2.refl (i := 24) (v := ?_) rfl (by kernel_rfl) (by kernel_rfl) (by kernel_rfl) (fun _ _ _ h => h) (by rfl) ?_ ?_; rotate_left 1; focus (intro w; go_simp; try with_reducible rfl))
              try simp only [Act.put, List.setIfInBounds_toArray, List.set_cons_zero, List.set_cons_succ]
              refine wpAnyK_step (i := 25) rfl (by kernel_rfl) (by rfl) (fun K hK => ?_)
              go_simp
              (have f1 := HN11.out.r.frozen t; have e1 : W11.cell? ⟨Bh, t, none⟩ = some (.int .i64 ht) := HC.out.2; go_simp; clear f1 e1)
              (refine hK _ _ (Keep2.no (by kernel_rfl) (by kernel_rfl)) ?_; clear hK K)
              try simp only [Act.put, List.setIfInBounds_toArray, List.set_cons_zero, List.set_cons_succ]
              refine wpAnyK_done (by kernel_rfl) ?_ _
              have HNB := Lib.hid (show NR w ((W11.setCell ⟨Bh, f, none⟩ (.int .i64 (hf - g))).setCell ⟨Bh, t, none⟩ (.int .i64 (ht + g))).drew d w3.heap.size wr.heap.size A m c Am nm cm bb Bh bs ((rg m).map (hasAt (bsF bs) (ms ++ [⟨f, t, g⟩]))) ms from by
                have e : (((rg m).map (hasAt (bsF bs) ms)).set f (hf - g)).set t (ht + g) = (rg m).map (mvd (hasAt (bsF bs) ms) ⟨f, t, g⟩) := by rw [HHF.out, HHT.out]; exact has_move (by omega) (by omega) (by omega) g
                rw [hasAt_snoc, ← e]
                exact HB.out)
              have HMC := Lib.hid (show Blk ((W11.setCell ⟨Bh, f, none⟩ (.int .i64 (hf - g))).setCell ⟨Bh, t, none⟩ (.int .i64 (ht + g))).drew B13 70 _ from HMB.out)
              generalize ((W11.setCell ⟨Bh, f, none⟩ (.int .i64 (hf - g))).setCell ⟨Bh, t, none⟩ (.int .i64 (ht + g))).drew = W12 at HNB HMC ⊢
              have m0 := HMC.out.cell 0
              have m1 := HMC.out.cell 1
              have m2 := HMC.out.cell 2
              have n1 := HNB.out.n.net.cell 1
              have HND := Lib.hid (HNB.out.alloc (.cells #[.int .i64 f, .int .i64 t, .int .i64 g] 70))
              have HSM := Lib.hid (Sl.new encM_len W12 [(⟨f, t, g⟩ : Mv)] 70 #[.int .i64 f, .int .i64 t, .int .i64 g] rfl)
              obtain ⟨i1, hi1, jz0, jz1, jz2⟩ := info_parts info_move3
              clear hF0 hG0
              go_upto_region 9 with (at_builtin; refine wpList_append_sl rfl _ _ 25 rfl w3.heap.size 70 i1 _ 24 Try.underlying25 hi1 jz0 jz1 jz2 rfl (by omega) encM_len _ nm _ rfl HND.out.o W12.heap.size _ 1 1 [(⟨f, t, g⟩ : Mv)] rfl HSM.out oneM3 (by unfold maxLen; omega) (by omega) (by have := HND.out.zz; have := HND.out.lo; omega) ?_; intro A13 c13 w13 hO13 hg13 _; have HO13 := Lib.hid hO13; have HG13 := Lib.hid hg13; have hn13 := HND.out.n.step hg13 (HND.out.n.die.keep (hg13.block d HND.out.n.die.lt (fun e => by have := (HND.out.o.lt d e.symm).1; have := HND.out.lo; omega))) (fun r e => by have := (HND.out.o.lt r e).1; have := HND.out.lo; exact .inr (by omega)); have f13 := hn13.net.frozen 1; have e13 := hn13.net.cell 1; have HN13 := Lib.hid hn13; clear hO13 hg13 hn13)
              have hlo := HND.out.lo
              have HFIN := Lib.hid (show Sl encI 1 (w13.setCell ⟨w.heap.size + 1, 1, none⟩ (.slice A13 (nm + 1) c13)) bb A m bs ∧ RowC (w13.setCell ⟨w.heap.size + 1, 1, none⟩ (.slice A13 (nm + 1) c13)) Bh ((rg m).map (hasAt (bsF bs) (ms ++ [⟨f, t, g⟩]))) ∧ (w13.setCell ⟨w.heap.size + 1, 1, none⟩ (.slice A13 (nm + 1) c13)).ownsRow w3.heap.size 70 3 (.slice A13 (nm + 1) c13) (nm + 1) ((ms ++ [(⟨f, t, g⟩ : Mv)]).flatMap encM) from
                ⟨(HND.out.s.grown HG13.out (fun _ e => by have := (HND.out.o.lt bb e.symm).1; omega)).setCell (fun _ => by show bb ≠ w.heap.size + 1; omega) _,
                  (HND.out.r.grown HG13.out (fun e => by have := (HND.out.o.lt Bh e.symm).1; omega)).far (p := ⟨w.heap.size + 1, 1, none⟩) (by show Bh ≠ w.heap.size + 1; omega) _,
                  by rw [List.flatMap_append]; exact ownsRow_setCell HO13.out (p := ⟨w.heap.size + 1, 1, none⟩) (by show w.heap.size + 1 < w3.heap.size; omega) _⟩)
              have HNS := Lib.hid (HN13.out.set1 (.slice A13 (nm + 1) c13))
              have HZ9 := Lib.hid (show w3.heap.size ≤ (w13.setCell ⟨w.heap.size + 1, 1, none⟩ (.slice A13 (nm + 1) c13)).heap.size from by have h1 := HG13.out.size; have h2 := HND.out.zz; simp [World.setCell] at h1 ⊢; simp at h2; omega)
              have HNI2 := Lib.hid (show NetIn bs (ms ++ [⟨f, t, g⟩]) from ⟨HNI.out.n0, HNI.out.n1, HNI.out.gr, by have := HNK.out; have := HNL.out; have := HK0.out; simp; omega, okMs_snoc HNI.out.ms ⟨by show (0 : Int) ≤ (f : Int); omega, by show (f : Int) < _; have := HML.out; omega, by show (0 : Int) ≤ (t : Int); omega, by show (t : Int) < _; have := HML.out; omega, by show (f : Int) ≠ (t : Int); omega, hg0, by show g ≤ hasAt (bsF bs) ms (f : Int); rw [← HHF.out]; exact hg1⟩⟩)
              clear hlo f13 e13
              go_wp2_with fail
              exact ⟨⟨k - 1, nm + 1, c13, A13, ms ++ [⟨f, t, g⟩], by rw [show ((k - 1 : Nat) : Int) = (k : Int) - 1 from by have := HK0.out; omega], by have := HNK.out; have := HK0.out; omega, by simp [HNL.out], HNI2.out, HZ9.out, HNS.out, HFIN.out⟩, by simp [intOf]; omega⟩
          · have hmi : decide ((1 : Int) < (m : Int)) = false := by simp; omega
            have HRES := Lib.hid HNx.out.res
            go_wp2_with (refine wpList_store_row rfl 27 (.tmp 8) (.tmp 122) rfl w.heap.size #[.slice A m c, .slice Am nm cm] rfl rfl 27 _ HRES.out info_netZ rfl (by simp [Value.oneCell']) ?_)
            exact netOf_end _ rfl (fun g hg => (HBS.out g hg).2) HNx.out HSx.out HOx.out HNI.out HNL.out (by have := HMK.out; omega) (by have := HNK.out; omega) HCB.out hbb (by omega)
        · have hki : decide ((0 : Int) < (k : Int)) = false := by simp; omega
          have HRES := Lib.hid HNx.out.res
          go_wp2_with (refine wpList_store_row rfl 27 (.tmp 8) (.tmp 122) rfl w.heap.size #[.slice A m c, .slice Am nm cm] rfl rfl 27 _ HRES.out info_netZ rfl (by simp [Value.oneCell']) ?_)
          exact netOf_end _ rfl (fun g hg => (HBS.out g hg).2) HNx.out HSx.out HOx.out HNI.out HNL.out (by have := HMK.out; omega) (by have := HNK.out; omega) HCB.out hbb (by omega)
theorem netOf_any (d B M : Nat) (G : Int) (w : World) (hd : IsDie w d) (hB1 : 1 ≤ B) (hB8 : B ≤ 8) (hM : M ≤ 12) (hG0 : 0 ≤ G) (hG1 : G ≤ 1000000) :
    Calls Try.prog 5 #[.pointer (some ⟨d, 0, none⟩), .int .i64 B, .int .i64 M, .int .i64 G] w (NetPost d B M w) :=
  (netOfG_any d B M G w hd hB1 hB8 hM hG0 hG1).mono fun _ _ ⟨bs, ms, b1, b2, A1, A2, nb, cb, nm, cm, _, h⟩ => ⟨bs, ms, b1, b2, A1, A2, nb, cb, nm, cm, h⟩
end Go.Proofs.Ytmoolcpogilgkaa

namespace Go.Proofs.Ytmoolcpogilgkaa
open Go.RowKit Go.Shelf Go.Sort

/-- a net that was made, and what has been laid since -/
structure LawSt (w W : World) (d Bn b1 b2 : Nat) (Ab Am : Option Addr) (nb cb nm cm : Nat) (bs : List Int) (ms : List Mv) : Prop where
  low : Below w.heap.size w W
  blk : Blk W Bn 27 #[.slice Ab nb cb, .slice Am nm cm]
  net : NetM W b1 b2 Ab Am nb cb nm cm bs ms
  ni : NetIn bs ms
  die : IsDie W d
  ne : b1 ≠ d ∧ b2 ≠ d ∧ Bn ≠ d ∧ w.heap.size ≤ d
section
variable {w W W' : World} {d Bn b1 b2 nb cb nm cm : Nat} {Ab Am : Option Addr} {bs : List Int} {ms : List Mv}
theorem LawSt.below (h : LawSt w W d Bn b1 b2 Ab Am nb cb nm cm bs ms) (hb : Below W.heap.size W W') : LawSt w W' d Bn b1 b2 Ab Am nb cb nm cm bs ms :=
  ⟨h.low.trans (hb.mono h.low.size), h.blk.below hb h.blk.lt, h.net.old hb, h.ni, h.die.keep (hb.block d h.die.lt), h.ne⟩
theorem LawSt.dieTo (h : LawSt w W d Bn b1 b2 Ab Am nb cb nm cm bs ms) (hd1 : IsDie W' d) (hg : W.grownBy W' (some d)) : LawSt w W' d Bn b1 b2 Ab Am nb cb nm cm bs ms :=
  ⟨h.low.grown hg h.low.size (fun j e => by cases e; exact h.ne.2.2.2), h.blk.grown hg (fun e => h.ne.2.2.1 (by injection e)), ⟨h.net.b.grown hg (fun _ e => h.ne.1 (by injection e)), h.net.m.grown hg (fun _ e => h.ne.2.1 (by injection e)), h.net.cb, h.net.cm⟩, h.ni, hd1, h.ne⟩
theorem LawSt.alloc (h : LawSt w W d Bn b1 b2 Ab Am nb cb nm cm bs ms) (o : Obj) : LawSt w (W.alloc o) d Bn b1 b2 Ab Am nb cb nm cm bs ms := h.below ((Below.refl _ W).alloc (Nat.le_refl _) o)
theorem LawSt.drew (h : LawSt w W d Bn b1 b2 Ab Am nb cb nm cm bs ms) : LawSt w W.drew d Bn b1 b2 Ab Am nb cb nm cm bs ms := h.below (Below.refl _ W).drew
theorem LawSt.grownOn (h : LawSt w W d Bn b1 b2 Ab Am nb cb nm cm bs ms) {W0 : World} (h0 : LawSt w W0 d Bn b1 b2 Ab Am nb cb nm cm bs ms) {row : Option Nat} (hg : W.grownBy W' row) (hr : ∀ r, row = some r → W0.heap.size ≤ r) : LawSt w W' d Bn b1 b2 Ab Am nb cb nm cm bs ms :=
  ⟨h.low.grown hg h.low.size (fun j e => Nat.le_trans h0.low.size (hr j e)), h.blk.grown hg (fun e => by have := h0.blk.lt; have := hr _ e.symm; omega), ⟨h.net.b.grown hg (fun hn e => by have := h0.net.b.lt hn; have := hr _ e.symm; omega), h.net.m.grown hg (fun hn e => by have := h0.net.m.lt hn; have := hr _ e.symm; omega), h.net.cb, h.net.cm⟩, h.ni,
    h.die.keep (hg.block d h.die.lt (fun e => by have := h0.die.lt; have := hr _ e.symm; omega)), h.ne⟩
theorem LawSt.nb_eq (h : LawSt w W d Bn b1 b2 Ab Am nb cb nm cm bs ms) : nb = bs.length := h.net.b.len
theorem LawSt.nm_eq (h : LawSt w W d Bn b1 b2 Ab Am nb cb nm cm bs ms) : nm = ms.length := h.net.m.len
theorem LawSt.nb8 (h : LawSt w W d Bn b1 b2 Ab Am nb cb nm cm bs ms) : nb ≤ 8 := by have := h.net.b.len; have := h.ni.n1; omega
theorem LawSt.nm12 (h : LawSt w W d Bn b1 b2 Ab Am nb cb nm cm bs ms) : nm ≤ 12 := by have := h.net.m.len; have := h.ni.m1; omega
theorem LawSt.recall (h : LawSt w W d Bn b1 b2 Ab Am nb cb nm cm bs ms) {b3 no co : Nat} {Ao : Option Addr} {l : List Int} (hO : Sl encI 1 W b3 Ao no l) (hl : OrgIn bs.length l) :
    Calls Try.prog 9 #[netV Ab Am nb cb nm cm, .slice Ao no co] W fun e W' => ∃ A c bR, e = .returned (.tuple #[.slice A (recallT bs ms l).length c, .int .i64 0]) ∧ Sl encI 1 W' bR A (recallT bs ms l).length (recallT bs ms l) ∧ Below W.heap.size W W' :=
  (Recall_ok b1 b2 b3 Ab Am Ao nb cb nm cm no co bs ms l W h.net hO (chkO_zero (chkNet_zero h.ni) hl)).mono fun e W' ⟨A, c, he, ho, hb⟩ => by
    obtain ⟨bR, _, hs⟩ := Sl.of_own (enc := encI) encI_len rfl (by rw [flatI]; exact ho)
    exact ⟨A, c, bR, he, hs, hb⟩
end
theorem reach_len (bs : List Int) (ms : List Mv) (l : List Int) : (reachT bs ms l).length = bs.length := by unfold reachT; rw [List.length_map, rg_length]
theorem reach_get (bs : List Int) (ms : List Mv) (l : List Int) {k : Nat} (hk : k < bs.length) : (reachT bs ms l)[k]'(by rw [reach_len]; exact hk) = mayT bs l ms k := by simp [reachT, rg]
theorem holds_len (bs : List Int) (ms : List Mv) : (holdsT bs ms).length = bs.length := by unfold holdsT; rw [List.length_map, rg_length]
theorem holds_get (bs : List Int) (ms : List Mv) {k : Nat} (hk : k < bs.length) : (holdsT bs ms)[k]'(by rw [holds_len]; exact hk) = hasAt (bsF bs) ms k := by simp [holdsT, rg]
theorem through_len (bs : List Int) (ms : List Mv) (l : List Int) : (throughT bs ms l).length = ms.length := thrT_len ..
/-- bounds of what is known -/
theorem may_bd {bs : List Int} {ms : List Mv} (h : NetIn bs ms) (l : List Int) {k : Nat} (hk : k < bs.length) : 0 ≤ (mayT bs l ms k).lo ∧ (mayT bs l ms k).lo ≤ 8000000 ∧ 0 ≤ (mayT bs l ms k).hi ∧ (mayT bs l ms k).hi ≤ 8000000 := by
  have h1 := mostF_le_has h.pos h.ms (othersT bs.length l) (batch := (k : Int)) (by omega) (by omega)
  have h2 := mostF_nonneg h.pos h.ms (othersT bs.length l) (k : Int)
  have h3 := mostF_le_has h.pos h.ms l (batch := (k : Int)) (by omega) (by omega)
  have h4 := mostF_nonneg h.pos h.ms l (k : Int)
  have h5 := h.bd (k : Int)
  unfold mayT
  simp only
  omega
theorem thrT_get (bs : List Int) (l : List Int) : ∀ (pre ms : List Mv) {k : Nat} (hk : k < ms.length), (thrT bs l pre ms)[k]'(by rw [thrT_len]; exact hk) = takeT bs l (pre ++ ms.take k) ms[k]
  | pre, m :: ms, 0, _ => by simp [thrT]
  | pre, m :: ms, k + 1, hk => by
    have h := thrT_get bs l (pre ++ [m]) ms (k := k) (by simpa using hk)
    simp only [thrT, List.getElem_cons_succ, List.take_succ_cons]
    rw [h, List.append_assoc]
    rfl
theorem through_get (bs : List Int) (ms : List Mv) (l : List Int) {k : Nat} (hk : k < ms.length) : (throughT bs ms l)[k]'(by rw [through_len]; exact hk) = takeT bs l (ms.take k) ms[k] := by
  have := thrT_get bs l [] ms hk
  rwa [List.nil_append] at this
theorem NetIn.g_bd {bs : List Int} {ms : List Mv} (h : NetIn bs ms) {k : Nat} (hk : k < ms.length) : 1 ≤ ms[k].g ∧ ms[k].g ≤ 8000000 := by
  have h1 := h.at_ hk
  have h2 := h1.g1
  have h3 := (h.has_bd k ms[k].fr).2
  exact ⟨h1.g0, by omega⟩
theorem take_bd {bs : List Int} {ms : List Mv} (h : NetIn bs ms) (l : List Int) {k : Nat} (hk : k < ms.length) : 0 ≤ (takeT bs l (ms.take k) ms[k]).lo ∧ (takeT bs l (ms.take k) ms[k]).lo ≤ 8000000 ∧ 0 ≤ (takeT bs l (ms.take k) ms[k]).hi ∧ (takeT bs l (ms.take k) ms[k]).hi ≤ 8000000 := by
  obtain ⟨g0, g1⟩ := h.g_bd hk
  have h2 := mostF_nonneg h.pos (h.take k).ms (othersT bs.length l) ms[k].fr
  have h4 := mostF_nonneg h.pos (h.take k).ms l ms[k].fr
  unfold takeT
  simp only
  omega
end Go.Proofs.Ytmoolcpogilgkaa
