/-
  GoesOf of the kit: how goods of some origins truly go.
-/
import Derived.Test.YtmoolcpogilgkaaTrGoe
import Derived.Test.YtmoolcpogilgkaaBRow
import Derived.Test.YtmoolcpogilgkaaTraceAll
set_option linter.unusedVariables false
set_option linter.unusedSimpArgs false
namespace Go.Proofs.Ytmoolcpogilgkaa
open Go.RowKit Go.Shelf Go.Sort

theorem RowC.oldG {W W' : World} {g : Nat} {l : List Int} (h : RowC W g l) (hb : Below W.heap.size W W') : RowC W' g l := h.keep (hb.block g h.lt)
/-- while GoesOf runs: what batches have (block B), what of it is the origins' (H), which had some (D), the answer so far (G) -/
structure GoSt (w W : World) (d B G H D nb cb nm cm : Nat) (Ab Am : Option Addr) (has held : Int → Int) (had : Int → Bool) (tv : Value) : Prop where
  has : RowC W B ((rg nb).map has)
  held : RowC W H ((rg nb).map held)
  had : BRow W D nb had
  goes : Blk W G 59 #[tv, .slice (some ⟨H, 0, none⟩) nb nb, .slice (some ⟨D, 0, none⟩) nb nb]
  net : Blk W w.heap.size 27 #[.slice Ab nb cb, .slice Am nm cm]
  res : Blk W (w.heap.size + 1) 59 #[.slice none 0 0, .slice none 0 0, .slice none 0 0]
  die : IsDie W d
  low : w.grownBy W (some d)
structure GoNe (w : World) (base d B G H D : Nat) : Prop where
  d : d < w.heap.size
  b : w.heap.size + 1 < B ∧ B < base
  g : w.heap.size + 1 < G ∧ G < base
  h : w.heap.size + 1 < H ∧ H < base
  e : w.heap.size + 1 < D ∧ D < base
  bg : B ≠ G
  bh : B ≠ H
  bd : B ≠ D
  gh : G ≠ H
  gd : G ≠ D
  hd : H ≠ D
section
variable {w W W' : World} {base d B G H D nb cb nm cm : Nat} {Ab Am : Option Addr} {has held : Int → Int} {had : Int → Bool} {tv : Value}
theorem GoSt.below (h : GoSt w W d B G H D nb cb nm cm Ab Am has held had tv) (hb : Below W.heap.size W W') : GoSt w W' d B G H D nb cb nm cm Ab Am has held had tv :=
  ⟨h.has.oldG hb, h.held.oldG hb, h.had.old hb, h.goes.below hb h.goes.lt, h.net.below hb h.net.lt, h.res.below hb h.res.lt, h.die.keep (hb.block d h.die.lt), only_stepB hb h.low⟩
theorem GoSt.drew (h : GoSt w W d B G H D nb cb nm cm Ab Am has held had tv) : GoSt w W.drew d B G H D nb cb nm cm Ab Am has held had tv := h.below (Below.refl _ W).drew
theorem GoSt.alloc (h : GoSt w W d B G H D nb cb nm cm Ab Am has held had tv) (o : Obj) : GoSt w (W.alloc o) d B G H D nb cb nm cm Ab Am has held had tv := h.below ((Below.refl _ W).alloc (Nat.le_refl _) o)
theorem GoSt.cast (h : GoSt w W d B G H D nb cb nm cm Ab Am has held had tv) (hn : GoNe w base d B G H D) (hd : IsDie W' d) (hg : W.grownBy W' (some d)) : GoSt w W' d B G H D nb cb nm cm Ab Am has held had tv := by
  have h0 := hn.d; have h1 := hn.b; have h2 := hn.g; have h3 := hn.h; have h4 := hn.e
  exact ⟨h.has.grown hg (fun e => by injection e with e; omega), h.held.grown hg (fun e => by injection e with e; omega), h.had.grown hg (fun e => by injection e with e; omega), h.goes.grown hg (fun e => by injection e with e; omega), h.net.grown hg (fun e => by injection e with e; omega), h.res.grown hg (fun e => by injection e with e; omega), hd, only_trans h.low hg⟩
theorem GoSt.own (h : GoSt w W d B G H D nb cb nm cm Ab Am has held had tv) (hn : GoNe w base d B G H D) {row : Option Nat} (hg : W.grownBy W' row) (hr : ∀ r, row = some r → base ≤ r) : GoSt w W' d B G H D nb cb nm cm Ab Am has held had tv := by
  have h0 := hn.d; have h1 := hn.b; have h2 := hn.g; have h3 := hn.h; have h4 := hn.e
  exact ⟨h.has.grown hg (fun e => by have := hr _ e.symm; omega), h.held.grown hg (fun e => by have := hr _ e.symm; omega), h.had.grown hg (fun e => by have := hr _ e.symm; omega), h.goes.grown hg (fun e => by have := hr _ e.symm; omega), h.net.grown hg (fun e => by have := hr _ e.symm; omega), h.res.grown hg (fun e => by have := hr _ e.symm; omega),
    h.die.keep (hg.block d h.die.lt (fun e => by have := hr _ e.symm; omega)), ⟨hg.os.trans h.low.os, hg.tape.trans h.low.tape, hg.output.trans h.low.output, Nat.le_trans h.low.size hg.size, fun i hi hne => (hg.block i (Nat.lt_of_lt_of_le hi h.low.size) (fun e => by have := hr _ e.symm; omega)).trans (h.low.block i hi hne)⟩⟩
theorem GoSt.setHas (h : GoSt w W d B G H D nb cb nm cm Ab Am has held had tv) (hn : GoNe w base d B G H D) {k : Nat} (hk : k < nb) (x : Int) {f : Int → Int} (hf : ((rg nb).map has).set k x = (rg nb).map f) : GoSt w (W.setCell ⟨B, k, none⟩ (.int .i64 x)) d B G H D nb cb nm cm Ab Am f held had tv := by
  have h0 := hn.d; have h1 := hn.b
  exact ⟨by rw [← hf]; exact h.has.set_ (by rw [List.length_map, rg_length]; exact hk) x, h.held.far (fun e => hn.bh e.symm) _, Blk.far h.had (fun e => hn.bd e.symm) _, h.goes.far (fun e => hn.bg e.symm) _, h.net.far (by show w.heap.size ≠ B; omega) _, h.res.far (by show w.heap.size + 1 ≠ B; omega) _,
    h.die.keep (Below.heap_setCell W _ _ d (by show d ≠ B; omega)), only_setCell h.low (.inr (by show w.heap.size ≤ B; omega)) _⟩
theorem GoSt.setHeld (h : GoSt w W d B G H D nb cb nm cm Ab Am has held had tv) (hn : GoNe w base d B G H D) {k : Nat} (hk : k < nb) (x : Int) {f : Int → Int} (hf : ((rg nb).map held).set k x = (rg nb).map f) : GoSt w (W.setCell ⟨H, k, none⟩ (.int .i64 x)) d B G H D nb cb nm cm Ab Am has f had tv := by
  have h0 := hn.d; have h1 := hn.h
  exact ⟨h.has.far hn.bh _, by rw [← hf]; exact h.held.set_ (by rw [List.length_map, rg_length]; exact hk) x, Blk.far h.had (fun e => hn.hd e.symm) _, h.goes.far hn.gh _, h.net.far (by show w.heap.size ≠ H; omega) _, h.res.far (by show w.heap.size + 1 ≠ H; omega) _,
    h.die.keep (Below.heap_setCell W _ _ d (by show d ≠ H; omega)), only_setCell h.low (.inr (by show w.heap.size ≤ H; omega)) _⟩
theorem GoSt.setHad (h : GoSt w W d B G H D nb cb nm cm Ab Am has held had tv) (hn : GoNe w base d B G H D) {k : Nat} (hk : k < nb) (x : Bool) : GoSt w (W.setCell ⟨D, k, none⟩ (.bool x)) d B G H D nb cb nm cm Ab Am has held (fun b : Int => if b = (k : Int) then x else had b) tv := by
  have h0 := hn.d; have h1 := hn.e
  exact ⟨h.has.far hn.bd _, h.held.far hn.hd _, h.had.set_ hk x, h.goes.far hn.gd _, h.net.far (by show w.heap.size ≠ D; omega) _, h.res.far (by show w.heap.size + 1 ≠ D; omega) _,
    h.die.keep (Below.heap_setCell W _ _ d (by show d ≠ D; omega)), only_setCell h.low (.inr (by show w.heap.size ≤ D; omega)) _⟩
theorem GoSt.setTv (h : GoSt w W d B G H D nb cb nm cm Ab Am has held had tv) (hn : GoNe w base d B G H D) (v : Value) : GoSt w (W.setCell ⟨G, 0, none⟩ v) d B G H D nb cb nm cm Ab Am has held had v := by
  have h0 := hn.d; have h1 := hn.g
  exact ⟨h.has.far hn.bg _, h.held.far (fun e => hn.gh e.symm) _, Blk.far h.had (fun e => hn.gd e.symm) _, h.goes.set_ 0 v, h.net.far (by show w.heap.size ≠ G; omega) _, h.res.far (by show w.heap.size + 1 ≠ G; omega) _,
    h.die.keep (Below.heap_setCell W _ _ d (by show d ≠ G; omega)), only_setCell h.low (.inr (by show w.heap.size ≤ G; omega)) _⟩
theorem GoSt.congr (h : GoSt w W d B G H D nb cb nm cm Ab Am has held had tv) {has' held' : Int → Int} {had' : Int → Bool} (h1 : ∀ b : Int, 0 ≤ b → b < nb → has b = has' b) (h2 : ∀ b : Int, 0 ≤ b → b < nb → held b = held' b) (h3 : ∀ b : Int, 0 ≤ b → b < nb → had b = had' b) : GoSt w W d B G H D nb cb nm cm Ab Am has' held' had' tv := by
  have e1 : (rg nb).map has = (rg nb).map has' := List.map_congr_left fun b hb => by have := mem_rg.1 hb; exact h1 b this.1 this.2
  have e2 : (rg nb).map held = (rg nb).map held' := List.map_congr_left fun b hb => by have := mem_rg.1 hb; exact h2 b this.1 this.2
  exact ⟨by rw [← e1]; exact h.has, by rw [← e2]; exact h.held, h.had.congr h3, h.goes, h.net, h.res, h.die, h.low⟩
end
theorem own_step {bs : Int → Int} {l : List Int} {k : Nat} (hk : k < l.length) (hn : l.Nodup) : (∀ b : Int, (if b = l[k] then bs l[k] else ownOf bs (l.take k) b) = ownOf bs (l.take (k + 1)) b) ∧ (∀ b : Int, (if b = l[k] then decide (0 < bs l[k]) else (decide (b ∈ l.take k) && decide (0 < bs b))) = (decide (b ∈ l.take (k + 1)) && decide (0 < bs b))) := by
  have e : ∀ b, b ∈ l.take (k + 1) ↔ b ∈ l.take k ∨ b = l[k] := fun b => by
    rw [show l.take (k + 1) = l.take k ++ [l[k]] by rw [List.take_add_one, List.getElem?_eq_getElem hk]; rfl, List.mem_append, List.mem_singleton]
  constructor
  · intro b
    unfold ownOf
    by_cases h : b = l[k]
    · rw [if_pos h, if_pos ((e b).2 (.inr h)), h]
    · rw [if_neg h]
      by_cases h2 : b ∈ l.take k
      · rw [if_pos h2, if_pos ((e b).2 (.inl h2))]
      · rw [if_neg h2, if_neg (fun h3 => ((e b).1 h3).elim h2 h)]
  · intro b
    by_cases h : b = l[k]
    · rw [if_pos h, decide_eq_true ((e b).2 (.inr h)), h, Bool.true_and]
    · rw [if_neg h]
      by_cases h2 : b ∈ l.take k
      · rw [decide_eq_true h2, decide_eq_true ((e b).2 (.inl h2))]
      · rw [decide_eq_false h2, decide_eq_false (fun h3 => ((e b).1 h3).elim h2 h)]
theorem rowF_set (f : Int → Int) {N k : Nat} (x : Int) : ((rg N).map f).set k x = (rg N).map (fun b : Int => if b = (k : Int) then x else f b) := by
  refine List.ext_getElem (by simp) fun i h1 h2 => ?_
  rw [List.length_set, List.length_map, rg_length] at h1
  rw [List.getElem_set, List.getElem_map, List.getElem_map, rg_atB h1]
  by_cases e : k = i
  · subst e; simp
  · rw [if_neg e, if_neg (fun h => e (by omega))]
theorem hitX_snoc (b : Int) : ∀ (l : List Mv) (xs : List Int) (m : Mv) (x : Int), xs.length = l.length → hitX b (l ++ [m]) (xs ++ [x]) = (hitX b l xs || (decide (m.to = b) && decide (0 < x)))
  | [], [], m, x, _ => by simp [hitX]
  | [], _ :: _, _, _, h => by simp at h
  | _ :: _, [], _, _, h => by simp at h
  | m0 :: l, x0 :: xs, m, x, h => by
    simp only [List.cons_append, hitX]
    rw [hitX_snoc b l xs m x (by simpa using h), Bool.or_assoc]
theorem way_snoc {a own : Int → Int} {l : List Mv} {xs : List Int} {m : Mv} {x : Int} (h : isWay a own l xs) (h0 : 0 ≤ x) (h1 : m.g - (hasAt a l m.fr - ownAt own l xs m.fr) ≤ x) (h2 : x ≤ m.g) (h3 : x ≤ ownAt own l xs m.fr) : isWay a own (l ++ [m]) (xs ++ [x]) :=
  way_append h ⟨⟨h0, h1, h2, h3⟩, trivial⟩
theorem ownAt_snoc (own : Int → Int) : ∀ (l : List Mv) (xs : List Int) (m : Mv) (x : Int), xs.length = l.length → ownAt own (l ++ [m]) (xs ++ [x]) = mvx (ownAt own l xs) m x
  | [], [], m, x, _ => rfl
  | [], _ :: _, _, _, h => by simp at h
  | _ :: _, [], _, _, h => by simp at h
  | m0 :: l, x0 :: xs, m, x, h => by
    simp only [List.cons_append, ownAt]
    exact ownAt_snoc _ l xs m x (by simpa using h)
/-- what GoesOf answers -/
def GoesPost (d nb nm : Nat) (bs : List Int) (ms : List Mv) (l : List Int) (w : World) (e : Ending) (w' : World) : Prop :=
  ∃ (xs : List Int) (AT : Option Addr) (H D cT bT : Nat), isWay (bsF bs) (ownOf (bsF bs) l) ms xs ∧ e = .returned (.agg #[.slice AT nm cT, .slice (some ⟨H, 0, none⟩) nb nb, .slice (some ⟨D, 0, none⟩) nb nb]) ∧ Sl encI 1 w' bT AT nm xs ∧ RowC w' H ((rg nb).map (ownAt (ownOf (bsF bs) l) ms xs)) ∧ BRow w' D nb (hadT bs ms l xs) ∧
    (0 < nm → w.heap.size ≤ bT) ∧ w.heap.size ≤ H ∧ w.heap.size ≤ D ∧ DieTo d w w'
/-- three blocks, laid one after the other -/
theorem al3_1 (w : World) (o1 o2 o3 : Obj) (c1 : Array Value) (t1 : TypeId) (h : o1 = .cells c1 t1) : Blk (((w.alloc o1).alloc o2).alloc o3).drew w.heap.size t1 c1 := by subst h; exact ((Blk.new w t1 c1).alloc o2).alloc o3
theorem al3_2 (w : World) (o1 o2 o3 : Obj) (c1 : Array Value) (t1 : TypeId) (h : o2 = .cells c1 t1) : Blk (((w.alloc o1).alloc o2).alloc o3).drew (w.heap.size + 1) t1 c1 := by
  subst h
  have b := Blk.new (w.alloc o1) t1 c1
  rw [World.size_alloc] at b
  exact b.alloc o3
theorem al3_3 (w : World) (o1 o2 o3 : Obj) (c1 : Array Value) (t1 : TypeId) (h : o3 = .cells c1 t1) : Blk (((w.alloc o1).alloc o2).alloc o3).drew (w.heap.size + 1 + 1) t1 c1 := by
  subst h
  have b := Blk.new ((w.alloc o1).alloc o2) t1 c1
  rw [World.size_alloc, World.size_alloc] at b
  exact b
theorem al3_b (w : World) (o1 o2 o3 : Obj) : Below w.heap.size w (((w.alloc o1).alloc o2).alloc o3).drew := ((((Below.refl _ w).alloc (Nat.le_refl _) o1).alloc (by simp) o2).alloc (by simp; omega) o3).drew
/-- behind region 2: the answer's own block, and both rows -/
structure Mk2 (w1 : World) (nb : Nat) (G H D : Nat) (wx : World) : Prop where
  g : Blk wx G 59 #[.slice none 0 0, .slice (some ⟨H, 0, none⟩) nb nb, .slice (some ⟨D, 0, none⟩) nb nb]
  h : Blk wx H 3 (Array.replicate nb (Value.int .i64 0))
  d : Blk wx D 4 (Array.replicate nb (Value.bool false))
  b : Below w1.heap.size w1 wx
  z : w1.heap.size ≤ G ∧ w1.heap.size ≤ H ∧ w1.heap.size ≤ D
  n : G ≠ H ∧ G ≠ D ∧ H ≠ D
theorem Mk2.of {w1 : World} {nb G H D : Nat} {wx : World} (g : Blk wx G 59 #[.slice none 0 0, .slice (some ⟨H, 0, none⟩) nb nb, .slice (some ⟨D, 0, none⟩) nb nb]) (h : Blk wx H 3 (Array.replicate nb (Value.int .i64 0))) (d : Blk wx D 4 (Array.replicate nb (Value.bool false)))
    (b : Below w1.heap.size w1 wx) (z : w1.heap.size ≤ G ∧ w1.heap.size ≤ H ∧ w1.heap.size ≤ D) (n : G ≠ H ∧ G ≠ D ∧ H ≠ D) : ∃ (G' H D : Nat), Value.pointer (some ⟨G, 0, none⟩) = .pointer (some ⟨G', 0, none⟩) ∧ Mk2 w1 nb G' H D wx := ⟨G, H, D, rfl, g, h, d, b, z, n⟩
theorem info_goes : (Try.prog.info? 59).map (·.size) = some 3 := by kernel_rfl

set_option maxRecDepth 100000 in
set_option maxHeartbeats 4000000 in
theorem goesOf_any (d b1 b2 b3 : Nat) (Ab Am Ao : Option Addr) (nb cb nm cm no co : Nat) (bs : List Int) (ms : List Mv) (l : List Int) (w : World) (hd : IsDie w d) (hN : NetIn bs ms) (hM : NetM w b1 b2 Ab Am nb cb nm cm bs ms) (hO : Sl encI 1 w b3 Ao no l) (hl : OrgIn bs.length l)
    (h1 : b1 ≠ d) (h2 : b2 ≠ d) (h3 : b3 ≠ d) :
    Calls Try.prog 15 #[.pointer (some ⟨d, 0, none⟩), netV Ab Am nb cb nm cm, .slice Ao no co] w (GoesPost d nb nm bs ms l w) := by
  obtain ⟨i0, hi, iz0, iz1, iz2⟩ := info_parts info_int
  have hnb := hM.b.len
  have hnm := hM.m.len
  have hnb8 : nb ≤ 8 := by have := hN.n1; omega
  have hnb0 : 0 < nb := by have := hN.n0; omega
  have hnm12 : nm ≤ 12 := by have := hN.m1; omega
  have hno8 : no ≤ 8 := by have := hO.len; have := orig_len hl.nodup hl.rg hN.n1; omega
  have hdlt := hd.lt
  have hBn := (Blk.new w 27 #[.slice Ab nb cb, .slice Am nm cm]).alloc (.cells #[.slice none 0 0, .slice none 0 0, .slice none 0 0] 59)
  have hBr := Blk.new (w.alloc (.cells #[.slice Ab nb cb, .slice Am nm cm] 27)) 59 #[.slice none 0 0, .slice none 0 0, .slice none 0 0]
  rw [World.size_alloc] at hBr
  have hb0 : Below w.heap.size w ((w.alloc (.cells #[.slice Ab nb cb, .slice Am nm cm] 27)).alloc (.cells #[.slice none 0 0, .slice none 0 0, .slice none 0 0] 59)) := by go_grown
  have c0 := hBn.cell 0
  have HB0 := Lib.hid hb0
  have HBN := Lib.hid hBn
  have HBR := Lib.hid hBr
  have HM := Lib.hid hM
  have HO := Lib.hid hO
  have HN := Lib.hid hN
  have HL := Lib.hid hl
  have HD := Lib.hid hd
  have HNB := Lib.hid hnb
  have HNM := Lib.hid hnm
  have HNO := Lib.hid hO.len
  have HHH := Lib.hid (And.intro h1 (And.intro h2 h3))
  clear hb0 hBn hBr hM hO hN hl hd hnb hnm h1 h2 h3
  go_enter Try.func15, Try.ntmps15
  go_upto_region 2 with (go_at_call 19; refine (copyInts_any b1 nb cb Ab bs _ (HM.out.b.old HB0.out) (by omega)).mono ?_; rintro e w1 ⟨A1, c1, rfl, ho1, hb1⟩; have HO1 := Lib.hid ho1; have HB1 := Lib.hid hb1; clear ho1 hb1)
  obtain ⟨B, rfl, hBB, hrB⟩ := RowC.of_own HO1.out HNB.out hnb0
  simp only [World.size_alloc] at hBB
  have hrBlt := hrB.lt
  have HRB := Lib.hid (show RowC w1 B ((rg nb).map (bsF bs)) from by
    have e : (rg nb).map (bsF bs) = bs := by rw [HNB.out]; exact has_start bs
    rw [e]; exact hrB)
  have hz1 := HB1.out.size
  simp only [World.size_alloc] at hz1
  have hmk1 := make_ints nb (by omega)
  have hmk2 := make_bools nb (by omega)
  clear hrB c0
  go_cut [8] from 16 to 22 (fun p wx => ∃ (G H D : Nat), p = .pointer (some ⟨G, 0, none⟩) ∧ Mk2 w1 nb G H D wx)
  case first =>
    refine wp_region_K2 [] [] (fun _ => True) (fun _ => True) rfl (by kernel_rfl) (trivial) (trivial) (fun hF0 hG0 => ?_)
    (refine wpAnyK_takeL Keep2.refl (i := 0) (v := ?_) rfl (by kernel_rfl) (by kernel_rfl) (by kernel_rfl) (fun _ _ _ h => h) (by rfl) ?_ ?_; rotate_left 1; focus (intro w; go_simp; try with_reducible rfl))
    try simp only [Act.put, List.setIfInBounds_toArray, List.set_cons_zero, List.set_cons_succ]
    (refine wpAnyK_takeL Keep2.refl (i := 1) (v := ?_) rfl (by kernel_rfl) (by kernel_rfl) (by kernel_rfl) (fun _ _ _ h => h) (by rfl) ?_ ?_; rotate_left 1; focus (intro w; go_simp; try with_reducible rfl))
    try simp only [Act.put, List.setIfInBounds_toArray, List.set_cons_zero, List.set_cons_succ]
    (refine wpAnyK_takeL Keep2.refl (i := 3) (v := ?_) rfl (by kernel_rfl) (by kernel_rfl) (by kernel_rfl) (fun _ _ _ h => h) (by rfl) ?_ ?_; rotate_left 1; focus (intro w; go_simp; try with_reducible rfl))
    try simp only [Act.put, List.setIfInBounds_toArray, List.set_cons_zero, List.set_cons_succ]
    (refine wpAnyK_takeL Keep2.refl (i := 4) (v := ?_) rfl (by kernel_rfl) (by kernel_rfl) (by kernel_rfl) (fun _ _ _ h => h) (by rfl) ?_ ?_; rotate_left 1; focus (intro w; go_simp; try with_reducible rfl))
    try simp only [Act.put, List.setIfInBounds_toArray, List.set_cons_zero, List.set_cons_succ]
    refine wpAnyK_all (rs := [2, 5, 7]) (by kernel_rfl) (by simp) ?_
    refine List.forall_mem_cons.2 ⟨?_, List.forall_mem_cons.2 ⟨?_, List.forall_mem_cons.2 ⟨?_, fun _ h => absurd h List.not_mem_nil⟩⟩⟩
    · refine wpOp_of rfl (by rfl) (fun K hK => ?_)
      go_simp
      (refine hK _ _ ⟨Keep2.no (by kernel_rfl) (by kernel_rfl), ?_⟩; clear hK K)
      try simp only [Act.put, List.setIfInBounds_toArray, List.set_cons_zero, List.set_cons_succ]
      refine wpAnyK_all (rs := [5, 7]) (by kernel_rfl) (by simp) ?_
      refine List.forall_mem_cons.2 ⟨?_, List.forall_mem_cons.2 ⟨?_, fun _ h => absurd h List.not_mem_nil⟩⟩
      · refine wpOp_of rfl (by rfl) (fun K hK => ?_)
        go_simp
        (refine hK _ _ ⟨Keep2.no (by kernel_rfl) (by kernel_rfl), ?_⟩; clear hK K)
        try simp only [Act.put, List.setIfInBounds_toArray, List.set_cons_zero, List.set_cons_succ]
        (refine wpAnyK_takeL Keep2.refl (i := 6) (v := ?_) rfl (by kernel_rfl) (by kernel_rfl) (by kernel_rfl) (fun _ _ _ h => h) (by rfl) ?_ ?_; rotate_left 1; focus (intro w; go_simp; try with_reducible rfl))
        try simp only [Act.put, List.setIfInBounds_toArray, List.set_cons_zero, List.set_cons_succ]
        refine wpAnyK_step (i := 7) rfl (by kernel_rfl) (by rfl) (fun K hK => ?_)
        go_simp
        (refine hK _ _ (Keep2.no (by kernel_rfl) (by kernel_rfl)) ?_; clear hK K)
        try simp only [Act.put, List.setIfInBounds_toArray, List.set_cons_zero, List.set_cons_succ]
        refine wpAnyK_step (i := 8) rfl (by kernel_rfl) (by rfl) (fun K hK => ?_)
        go_simp
        (refine hK _ _ (Keep2.no (by kernel_rfl) (by kernel_rfl)) ?_; clear hK K)
        try simp only [Act.put, List.setIfInBounds_toArray, List.set_cons_zero, List.set_cons_succ]
        refine wpAnyK_done (by kernel_rfl) ?_ _
        go_wp2_with fail
        go_meet
        apply Mk2.of
        all_goals (first | exact al3_b w1 _ _ _ | exact al3_1 w1 _ _ _ _ _ rfl | exact al3_2 w1 _ _ _ _ _ rfl | exact al3_3 w1 _ _ _ _ _ rfl | omega)
      · refine wpOp_of rfl (by rfl) (fun K hK => ?_)
        go_simp
        (refine hK _ _ ⟨Keep2.no (by kernel_rfl) (by kernel_rfl), ?_⟩; clear hK K)
        try simp only [Act.put, List.setIfInBounds_toArray, List.set_cons_zero, List.set_cons_succ]
        refine wpAnyK_step (i := 5) rfl (by kernel_rfl) (by rfl) (fun K hK => ?_)
        go_simp
        (refine hK _ _ (Keep2.no (by kernel_rfl) (by kernel_rfl)) ?_; clear hK K)
        try simp only [Act.put, List.setIfInBounds_toArray, List.set_cons_zero, List.set_cons_succ]
        (refine wpAnyK_takeL Keep2.refl (i := 6) (v := ?_) rfl (by kernel_rfl) (by kernel_rfl) (by kernel_rfl) (fun _ _ _ h => h) (by rfl) ?_ ?_; rotate_left 1; focus (intro w; go_simp; try with_reducible rfl))
        try simp only [Act.put, List.setIfInBounds_toArray, List.set_cons_zero, List.set_cons_succ]
        refine wpAnyK_step (i := 8) rfl (by kernel_rfl) (by rfl) (fun K hK => ?_)
        go_simp
        (refine hK _ _ (Keep2.no (by kernel_rfl) (by kernel_rfl)) ?_; clear hK K)
        try simp only [Act.put, List.setIfInBounds_toArray, List.set_cons_zero, List.set_cons_succ]
        refine wpAnyK_done (by kernel_rfl) ?_ _
        go_wp2_with fail
        go_meet
        apply Mk2.of
        all_goals (first | exact al3_b w1 _ _ _ | exact al3_1 w1 _ _ _ _ _ rfl | exact al3_2 w1 _ _ _ _ _ rfl | exact al3_3 w1 _ _ _ _ _ rfl | omega)
    · refine wpOp_of rfl (by rfl) (fun K hK => ?_)
      go_simp
      (refine hK _ _ ⟨Keep2.no (by kernel_rfl) (by kernel_rfl), ?_⟩; clear hK K)
      try simp only [Act.put, List.setIfInBounds_toArray, List.set_cons_zero, List.set_cons_succ]
      refine wpAnyK_all (rs := [2, 7]) (by kernel_rfl) (by simp) ?_
      refine List.forall_mem_cons.2 ⟨?_, List.forall_mem_cons.2 ⟨?_, fun _ h => absurd h List.not_mem_nil⟩⟩
      · refine wpOp_of rfl (by rfl) (fun K hK => ?_)
        go_simp
        (refine hK _ _ ⟨Keep2.no (by kernel_rfl) (by kernel_rfl), ?_⟩; clear hK K)
        try simp only [Act.put, List.setIfInBounds_toArray, List.set_cons_zero, List.set_cons_succ]
        (refine wpAnyK_takeL Keep2.refl (i := 6) (v := ?_) rfl (by kernel_rfl) (by kernel_rfl) (by kernel_rfl) (fun _ _ _ h => h) (by rfl) ?_ ?_; rotate_left 1; focus (intro w; go_simp; try with_reducible rfl))
        try simp only [Act.put, List.setIfInBounds_toArray, List.set_cons_zero, List.set_cons_succ]
        refine wpAnyK_step (i := 7) rfl (by kernel_rfl) (by rfl) (fun K hK => ?_)
        go_simp
        (refine hK _ _ (Keep2.no (by kernel_rfl) (by kernel_rfl)) ?_; clear hK K)
        try simp only [Act.put, List.setIfInBounds_toArray, List.set_cons_zero, List.set_cons_succ]
        refine wpAnyK_step (i := 8) rfl (by kernel_rfl) (by rfl) (fun K hK => ?_)
        go_simp
        (refine hK _ _ (Keep2.no (by kernel_rfl) (by kernel_rfl)) ?_; clear hK K)
        try simp only [Act.put, List.setIfInBounds_toArray, List.set_cons_zero, List.set_cons_succ]
        refine wpAnyK_done (by kernel_rfl) ?_ _
        go_wp2_with fail
        go_meet
        apply Mk2.of
        all_goals (first | exact al3_b w1 _ _ _ | exact al3_1 w1 _ _ _ _ _ rfl | exact al3_2 w1 _ _ _ _ _ rfl | exact al3_3 w1 _ _ _ _ _ rfl | omega)
      · refine wpOp_of rfl (by rfl) (fun K hK => ?_)
        go_simp
        (refine hK _ _ ⟨Keep2.no (by kernel_rfl) (by kernel_rfl), ?_⟩; clear hK K)
        try simp only [Act.put, List.setIfInBounds_toArray, List.set_cons_zero, List.set_cons_succ]
        refine wpAnyK_step (i := 2) rfl (by kernel_rfl) (by rfl) (fun K hK => ?_)
        go_simp
        (refine hK _ _ (Keep2.no (by kernel_rfl) (by kernel_rfl)) ?_; clear hK K)
        try simp only [Act.put, List.setIfInBounds_toArray, List.set_cons_zero, List.set_cons_succ]
        (refine wpAnyK_takeL Keep2.refl (i := 6) (v := ?_) rfl (by kernel_rfl) (by kernel_rfl) (by kernel_rfl) (fun _ _ _ h => h) (by rfl) ?_ ?_; rotate_left 1; focus (intro w; go_simp; try with_reducible rfl))
        try simp only [Act.put, List.setIfInBounds_toArray, List.set_cons_zero, List.set_cons_succ]
        refine wpAnyK_step (i := 8) rfl (by kernel_rfl) (by rfl) (fun K hK => ?_)
        go_simp
        (refine hK _ _ (Keep2.no (by kernel_rfl) (by kernel_rfl)) ?_; clear hK K)
        try simp only [Act.put, List.setIfInBounds_toArray, List.set_cons_zero, List.set_cons_succ]
        refine wpAnyK_done (by kernel_rfl) ?_ _
        go_wp2_with fail
        go_meet
        apply Mk2.of
        all_goals (first | exact al3_b w1 _ _ _ | exact al3_1 w1 _ _ _ _ _ rfl | exact al3_2 w1 _ _ _ _ _ rfl | exact al3_3 w1 _ _ _ _ _ rfl | omega)
    · refine wpOp_of rfl (by rfl) (fun K hK => ?_)
      go_simp
      (refine hK _ _ ⟨Keep2.no (by kernel_rfl) (by kernel_rfl), ?_⟩; clear hK K)
      try simp only [Act.put, List.setIfInBounds_toArray, List.set_cons_zero, List.set_cons_succ]
      refine wpAnyK_all (rs := [2, 5]) (by kernel_rfl) (by simp) ?_
      refine List.forall_mem_cons.2 ⟨?_, List.forall_mem_cons.2 ⟨?_, fun _ h => absurd h List.not_mem_nil⟩⟩
      · refine wpOp_of rfl (by rfl) (fun K hK => ?_)
        go_simp
        (refine hK _ _ ⟨Keep2.no (by kernel_rfl) (by kernel_rfl), ?_⟩; clear hK K)
        try simp only [Act.put, List.setIfInBounds_toArray, List.set_cons_zero, List.set_cons_succ]
        refine wpAnyK_step (i := 5) rfl (by kernel_rfl) (by rfl) (fun K hK => ?_)
        go_simp
        (refine hK _ _ (Keep2.no (by kernel_rfl) (by kernel_rfl)) ?_; clear hK K)
        try simp only [Act.put, List.setIfInBounds_toArray, List.set_cons_zero, List.set_cons_succ]
        (refine wpAnyK_takeL Keep2.refl (i := 6) (v := ?_) rfl (by kernel_rfl) (by kernel_rfl) (by kernel_rfl) (fun _ _ _ h => h) (by rfl) ?_ ?_; rotate_left 1; focus (intro w; go_simp; try with_reducible rfl))
        try simp only [Act.put, List.setIfInBounds_toArray, List.set_cons_zero, List.set_cons_succ]
        refine wpAnyK_step (i := 8) rfl (by kernel_rfl) (by rfl) (fun K hK => ?_)
        go_simp
        (refine hK _ _ (Keep2.no (by kernel_rfl) (by kernel_rfl)) ?_; clear hK K)
        try simp only [Act.put, List.setIfInBounds_toArray, List.set_cons_zero, List.set_cons_succ]
        refine wpAnyK_done (by kernel_rfl) ?_ _
        go_wp2_with fail
        go_meet
        apply Mk2.of
        all_goals (first | exact al3_b w1 _ _ _ | exact al3_1 w1 _ _ _ _ _ rfl | exact al3_2 w1 _ _ _ _ _ rfl | exact al3_3 w1 _ _ _ _ _ rfl | omega)
      · refine wpOp_of rfl (by rfl) (fun K hK => ?_)
        go_simp
        (refine hK _ _ ⟨Keep2.no (by kernel_rfl) (by kernel_rfl), ?_⟩; clear hK K)
        try simp only [Act.put, List.setIfInBounds_toArray, List.set_cons_zero, List.set_cons_succ]
        refine wpAnyK_step (i := 2) rfl (by kernel_rfl) (by rfl) (fun K hK => ?_)
        go_simp
        (refine hK _ _ (Keep2.no (by kernel_rfl) (by kernel_rfl)) ?_; clear hK K)
        try simp only [Act.put, List.setIfInBounds_toArray, List.set_cons_zero, List.set_cons_succ]
        (refine wpAnyK_takeL Keep2.refl (i := 6) (v := ?_) rfl (by kernel_rfl) (by kernel_rfl) (by kernel_rfl) (fun _ _ _ h => h) (by rfl) ?_ ?_; rotate_left 1; focus (intro w; go_simp; try with_reducible rfl))
        try simp only [Act.put, List.setIfInBounds_toArray, List.set_cons_zero, List.set_cons_succ]
        refine wpAnyK_step (i := 8) rfl (by kernel_rfl) (by rfl) (fun K hK => ?_)
        go_simp
        (refine hK _ _ (Keep2.no (by kernel_rfl) (by kernel_rfl)) ?_; clear hK K)
        try simp only [Act.put, List.setIfInBounds_toArray, List.set_cons_zero, List.set_cons_succ]
        refine wpAnyK_done (by kernel_rfl) ?_ _
        go_wp2_with fail
        go_meet
        apply Mk2.of
        all_goals (first | exact al3_b w1 _ _ _ | exact al3_1 w1 _ _ _ _ _ rfl | exact al3_2 w1 _ _ _ _ _ rfl | exact al3_3 w1 _ _ _ _ _ rfl | omega)
  case rest =>
    obtain ⟨G, H, D, rfl, hM2⟩ := hcut
    have hGH := hM2.n
    have hGZ := hM2.z
    have hgl := hM2.g.lt
    have hhl := hM2.h.lt
    have hdl := hM2.d.lt
    have hz2 := hM2.b.size
    obtain ⟨wb, rfl⟩ : ∃ wb : World, wb = wc := ⟨_, rfl⟩
    have HN2 := Lib.hid (show GoNe w wb.heap.size d B G H D from ⟨HD.out.lt, ⟨by omega, by omega⟩, ⟨by omega, by omega⟩, ⟨by omega, by omega⟩, ⟨by omega, by omega⟩, by omega, by omega, by omega, hGH.1, hGH.2.1, hGH.2.2⟩)
    have HS0 := Lib.hid (show GoSt w wb d B G H D nb cb nm cm Ab Am (bsF bs) (ownOf (bsF bs) (l.take 0)) (fun b => decide (b ∈ l.take 0) && decide (0 < bsF bs b)) (.slice none 0 0) from by
      have hb1 := HB1.out
      have hbw : Below w1.heap.size w1 wb := hM2.b
      have hw1 : Below w.heap.size w w1 := HB0.out.trans (HB1.out.mono HB0.out.size)
      have hww : Below w.heap.size w wb := hw1.trans (hbw.mono hw1.size)
      refine ⟨HRB.out.oldG hbw, ?_, ?_, hM2.g, (HBN.out.below hb1 HBN.out.lt).below hbw (Nat.lt_of_lt_of_le HBN.out.lt hb1.size), (HBR.out.below hb1 HBR.out.lt).below hbw (Nat.lt_of_lt_of_le HBR.out.lt hb1.size), HD.out.keep (hww.block d HD.out.lt), only_stepB hww (only_refl _ _)⟩
      · have e : (rg nb).map (ownOf (bsF bs) (l.take 0)) = List.replicate nb 0 := by
          rw [List.eq_replicate_iff]
          refine ⟨by rw [List.length_map, rg_length], fun x hx => ?_⟩
          obtain ⟨b, _, rfl⟩ := List.mem_map.1 hx
          simp [ownOf]
        rw [e]
        exact ⟨_, hM2.h, by simp, by simp⟩
      · have e : ((rg nb).map fun b : Int => Value.bool (decide (b ∈ l.take 0) && decide (0 < bsF bs b))).toArray = Array.replicate nb (Value.bool false) := by
          rw [← Array.toArray_toList (xs := Array.replicate nb (Value.bool false))]
          congr 1
          rw [Array.toList_replicate, List.eq_replicate_iff]
          refine ⟨by rw [List.length_map, rg_length], fun x hx => ?_⟩
          obtain ⟨b, _, rfl⟩ := List.mem_map.1 hx
          simp
        show Blk wb D 4 _
        rw [e]
        exact hM2.d)
    clear hM2 HBN HBR HB0 HB1 HRB HO1 hGH hGZ hgl hhl hdl hz2 hmk1 hmk2
    go_wp2_with fail
    go_loopw [9] (fun i wr => ∃ k : Nat, k ≤ no ∧ i = .int .i64 k ∧ GoSt w wr d B G H D nb cb nm cm Ab Am (bsF bs) (ownOf (bsF bs) (l.take k)) (fun b => decide (b ∈ l.take k) && decide (0 < bsF bs b)) (.slice none 0 0) ∧ wb.heap.size ≤ wr.heap.size) (fun i _ => no - (intOf i).toNat)
    case atStart => exact ⟨0, Nat.zero_le _, rfl, HS0.out, Nat.le_refl _⟩
    case round =>
      obtain ⟨k, hk, rfl, hS, hzr⟩ := hrel
      by_cases hlt : k < no
      · have hkl : k < l.length := by have := HNO.out; omega
        have hHH := HHH.out
        obtain ⟨oo, rfl, hoz, so⟩ := (HO.out.grown hS.low (fun _ e => hHH.2.2 (by injection e))).atI hkl
        have HSO := Lib.hid (fun (W : World) (h : w.grownBy W (some d)) => (show W.cell? ⟨b3, oo + k, none⟩ = some (.int .i64 l[k]) from by
          obtain ⟨o2, e2, _, s2⟩ := (HO.out.grown h (fun _ e => hHH.2.2 (by injection e))).atI hkl
          injection e2 with e2; injection e2 with _ e2; rw [e2]; exact s2))
        have hor := HL.out.rg _ (List.getElem_mem hkl)
        have hnd := HL.out.nodup
        have HSR := Lib.hid (own_step (bs := bsF bs) hkl hnd)
        generalize l[k] = x at so hor HSR HSO
        obtain ⟨a, rfl⟩ := Int.eq_ofNat_of_zero_le hor.1
        have hab : a < nb := by have := HNB.out; omega
        have k0 : (0 : Int) ≤ (k : Int) := by omega
        have k1 : (k : Int) < (no : Int) := by omega
        have a0 : (0 : Int) ≤ (a : Int) := by omega
        have a1 : (a : Int) < (nb : Int) := by omega
        have ca := hS.has.cell (k := a) (by rw [has_len]; exact hab)
        rw [has_get hab] at ca
        have HF := Lib.hid (And.intro (hS.goes.cell 1) (And.intro so ca))
        have HS := Lib.hid hS
        have HS2 := Lib.hid (hS.setHeld HN2.out hab (bsF bs a) (rowF_set _ _))
        have HHC := Lib.hid (And.intro (hS.held.cell (k := a) (by rw [has_len]; exact hab)) (hS.held.frozen a))
        clear hS so ca hor hHH hnd
        go_upto_region 6 with fail
        refine wp_region_PL [1, 5, 10, 12] (fun W => W.cell? ⟨G, 1, none⟩ = some (.slice (some ⟨H, 0, none⟩) nb nb) ∧ W.cell? ⟨b3, oo + k, none⟩ = some (.int .i64 (a : Int)) ∧ W.cell? ⟨B, a, none⟩ = some (.int .i64 (bsF bs a))) rfl (by kernel_rfl) (HF.out) (fun hF0 => ?_)
        (refine wpAnyP_takeL (i := 0) (v := ?_) rfl (by kernel_rfl) (by kernel_rfl) (by kernel_rfl) (fun _ _ _ h => h) (by rfl) ?_ ?_; rotate_left 1; focus (intro w; go_simp; try with_reducible rfl))
        try simp only [Act.put, List.setIfInBounds_toArray, List.set_cons_zero, List.set_cons_succ]
        (refine wpAnyP_loadL (i := 1) (v := ?_) rfl (by kernel_rfl) (by kernel_rfl) (by kernel_rfl) (by rfl) (fun _ _ _ h => h) hF0 (by rfl) ?_ ?_; rotate_left 1; focus (intro w hFw; (try dsimp only at hFw); go_split_ands; go_simp; try with_reducible rfl))
        try simp only [Act.put, List.setIfInBounds_toArray, List.set_cons_zero, List.set_cons_succ]
        (refine wpAnyP_takeL (i := 2) (v := ?_) rfl (by kernel_rfl) (by kernel_rfl) (by kernel_rfl) (fun _ _ _ h => h) (by rfl) ?_ ?_; rotate_left 1; focus (intro w; go_simp; try with_reducible rfl))
        try simp only [Act.put, List.setIfInBounds_toArray, List.set_cons_zero, List.set_cons_succ]
        (refine wpAnyP_takeL (i := 3) (v := ?_) rfl (by kernel_rfl) (by kernel_rfl) (by kernel_rfl) (fun _ _ _ h => h) (by rfl) ?_ ?_; rotate_left 1; focus (intro w; go_simp; try with_reducible rfl))
        try simp only [Act.put, List.setIfInBounds_toArray, List.set_cons_zero, List.set_cons_succ]
        (refine wpAnyP_takeL (i := 4) (v := ?_) rfl (by kernel_rfl) (by kernel_rfl) (by kernel_rfl) (fun _ _ _ h => h) (by rfl) ?_ ?_; rotate_left 1; focus (intro w; go_simp; try with_reducible rfl))
        try simp only [Act.put, List.setIfInBounds_toArray, List.set_cons_zero, List.set_cons_succ]
        (refine wpAnyP_loadL (i := 5) (v := ?_) rfl (by kernel_rfl) (by kernel_rfl) (by kernel_rfl) (by rfl) (fun _ _ _ h => h) hF0 (by rfl) ?_ ?_; rotate_left 1; focus (intro w hFw; (try dsimp only at hFw); go_split_ands; go_simp; try with_reducible rfl))
        try simp only [Act.put, List.setIfInBounds_toArray, List.set_cons_zero, List.set_cons_succ]
        (refine wpAnyP_takeL (i := 6) (v := ?_) rfl (by kernel_rfl) (by kernel_rfl) (by kernel_rfl) (fun _ _ _ h => h) (by rfl) ?_ ?_; rotate_left 1; focus (intro w; go_simp; try with_reducible rfl))
        try simp only [Act.put, List.setIfInBounds_toArray, List.set_cons_zero, List.set_cons_succ]
        (refine wpAnyP_takeL (i := 7) (v := ?_) rfl (by kernel_rfl) (by kernel_rfl) (by kernel_rfl) (fun _ _ _ h => h) (by rfl) ?_ ?_; rotate_left 1; focus (intro w; go_simp; try with_reducible rfl))
        try simp only [Act.put, List.setIfInBounds_toArray, List.set_cons_zero, List.set_cons_succ]
        (refine wpAnyP_takeL (i := 8) (v := ?_) rfl (by kernel_rfl) (by kernel_rfl) (by kernel_rfl) (fun _ _ _ h => h) (by rfl) ?_ ?_; rotate_left 1; focus (intro w; go_simp; try with_reducible rfl))
        try simp only [Act.put, List.setIfInBounds_toArray, List.set_cons_zero, List.set_cons_succ]
        (refine wpAnyP_takeL (i := 9) (v := ?_) rfl (by kernel_rfl) (by kernel_rfl) (by kernel_rfl) (fun _ _ _ h => h) (by rfl) ?_ ?_; rotate_left 1; focus (intro w; go_simp; try with_reducible rfl))
        try simp only [Act.put, List.setIfInBounds_toArray, List.set_cons_zero, List.set_cons_succ]
        (refine wpAnyP_loadL (i := 10) (v := ?_) rfl (by kernel_rfl) (by kernel_rfl) (by kernel_rfl) (by rfl) (fun _ _ _ h => h) hF0 (by rfl) ?_ ?_; rotate_left 1; focus (intro w hFw; (try dsimp only at hFw); go_split_ands; go_simp; try with_reducible rfl))
        try simp only [Act.put, List.setIfInBounds_toArray, List.set_cons_zero, List.set_cons_succ]
        (refine wpAnyP_takeL (i := 11) (v := ?_) rfl (by kernel_rfl) (by kernel_rfl) (by kernel_rfl) (fun _ _ _ h => h) (by rfl) ?_ ?_; rotate_left 1; focus (intro w; go_simp; try with_reducible rfl))
        try simp only [Act.put, List.setIfInBounds_toArray, List.set_cons_zero, List.set_cons_succ]
        (refine wpAnyP_loadL (i := 12) (v := ?_) rfl (by kernel_rfl) (by kernel_rfl) (by kernel_rfl) (by rfl) (fun _ _ _ h => h) hF0 (by rfl) ?_ ?_; rotate_left 1; focus (intro w hFw; (try dsimp only at hFw); go_split_ands; go_simp; try with_reducible rfl))
        try simp only [Act.put, List.setIfInBounds_toArray, List.set_cons_zero, List.set_cons_succ]
        (refine wpAnyP_takeL (i := 13) (v := ?_) rfl (by kernel_rfl) (by kernel_rfl) (by kernel_rfl) (fun _ _ _ h => h) (by rfl) ?_ ?_; rotate_left 1; focus (intro w; go_simp; try with_reducible rfl))
        try simp only [Act.put, List.setIfInBounds_toArray, List.set_cons_zero, List.set_cons_succ]
        refine wpAnyP_last (i := 14) rfl (by kernel_rfl) (by kernel_rfl) (by rfl) (fun K hK => ?_)
        go_simp
        (have f1 := HHC.out.2; have e1 := HHC.out.1; go_simp; clear f1 e1)
        (refine hK _ _ ?_; clear hK K)
        try simp only [Act.put, List.setIfInBounds_toArray, List.set_cons_zero, List.set_cons_succ]
        refine wpAnyP_done (by kernel_rfl) ?_ _
        obtain ⟨W6, hW6⟩ : ∃ W6, (wr.setCell ⟨H, a, none⟩ (.int .i64 (bsF bs a))).drew = W6 := ⟨_, rfl⟩
        have HS6 := Lib.hid (show GoSt w W6 d B G H D nb cb nm cm Ab Am (bsF bs) _ _ (.slice none 0 0) from hW6 ▸ HS2.out.drew)
        have HZ6 := Lib.hid (show wb.heap.size ≤ W6.heap.size from by rw [← hW6]; simp [World.setCell, World.drew]; exact hzr)
        rw [hW6]
        clear hW6 HF HHC HS2 HS hzr hoz
        have ca := HS6.out.has.cell (k := a) (by rw [has_len]; exact hab)
        rw [has_get hab] at ca
        have HF := Lib.hid (And.intro (HS6.out.goes.cell 2) (And.intro (HSO.out W6 HS6.out.low) ca))
        have HHC := Lib.hid (And.intro (HS6.out.had.cell hab) (HS6.out.had.frozen a))
        have HS2 := Lib.hid (HS6.out.setHad HN2.out hab (decide (0 < bsF bs a)))
        clear ca
        go_upto_region 7 with fail
        refine wp_region_PL [1, 5, 10, 12] (fun W => W.cell? ⟨G, 2, none⟩ = some (.slice (some ⟨D, 0, none⟩) nb nb) ∧ W.cell? ⟨b3, oo + k, none⟩ = some (.int .i64 (a : Int)) ∧ W.cell? ⟨B, a, none⟩ = some (.int .i64 (bsF bs a))) rfl (by kernel_rfl) (HF.out) (fun hF0 => ?_)
        (refine wpAnyP_takeL (i := 0) (v := ?_) rfl (by kernel_rfl) (by kernel_rfl) (by kernel_rfl) (fun _ _ _ h => h) (by rfl) ?_ ?_; rotate_left 1; focus (intro w; go_simp; try with_reducible rfl))
        try simp only [Act.put, List.setIfInBounds_toArray, List.set_cons_zero, List.set_cons_succ]
        (refine wpAnyP_loadL (i := 1) (v := ?_) rfl (by kernel_rfl) (by kernel_rfl) (by kernel_rfl) (by rfl) (fun _ _ _ h => h) hF0 (by rfl) ?_ ?_; rotate_left 1; focus (intro w hFw; (try dsimp only at hFw); go_split_ands; go_simp; try with_reducible rfl))
        try simp only [Act.put, List.setIfInBounds_toArray, List.set_cons_zero, List.set_cons_succ]
        (refine wpAnyP_takeL (i := 2) (v := ?_) rfl (by kernel_rfl) (by kernel_rfl) (by kernel_rfl) (fun _ _ _ h => h) (by rfl) ?_ ?_; rotate_left 1; focus (intro w; go_simp; try with_reducible rfl))
        try simp only [Act.put, List.setIfInBounds_toArray, List.set_cons_zero, List.set_cons_succ]
        (refine wpAnyP_takeL (i := 3) (v := ?_) rfl (by kernel_rfl) (by kernel_rfl) (by kernel_rfl) (fun _ _ _ h => h) (by rfl) ?_ ?_; rotate_left 1; focus (intro w; go_simp; try with_reducible rfl))
        try simp only [Act.put, List.setIfInBounds_toArray, List.set_cons_zero, List.set_cons_succ]
        (refine wpAnyP_takeL (i := 4) (v := ?_) rfl (by kernel_rfl) (by kernel_rfl) (by kernel_rfl) (fun _ _ _ h => h) (by rfl) ?_ ?_; rotate_left 1; focus (intro w; go_simp; try with_reducible rfl))
        try simp only [Act.put, List.setIfInBounds_toArray, List.set_cons_zero, List.set_cons_succ]
        (refine wpAnyP_loadL (i := 5) (v := ?_) rfl (by kernel_rfl) (by kernel_rfl) (by kernel_rfl) (by rfl) (fun _ _ _ h => h) hF0 (by rfl) ?_ ?_; rotate_left 1; focus (intro w hFw; (try dsimp only at hFw); go_split_ands; go_simp; try with_reducible rfl))
        try simp only [Act.put, List.setIfInBounds_toArray, List.set_cons_zero, List.set_cons_succ]
        (refine wpAnyP_takeL (i := 6) (v := ?_) rfl (by kernel_rfl) (by kernel_rfl) (by kernel_rfl) (fun _ _ _ h => h) (by rfl) ?_ ?_; rotate_left 1; focus (intro w; go_simp; try with_reducible rfl))
        try simp only [Act.put, List.setIfInBounds_toArray, List.set_cons_zero, List.set_cons_succ]
        (refine wpAnyP_takeL (i := 7) (v := ?_) rfl (by kernel_rfl) (by kernel_rfl) (by kernel_rfl) (fun _ _ _ h => h) (by rfl) ?_ ?_; rotate_left 1; focus (intro w; go_simp; try with_reducible rfl))
        try simp only [Act.put, List.setIfInBounds_toArray, List.set_cons_zero, List.set_cons_succ]
        (refine wpAnyP_takeL (i := 8) (v := ?_) rfl (by kernel_rfl) (by kernel_rfl) (by kernel_rfl) (fun _ _ _ h => h) (by rfl) ?_ ?_; rotate_left 1; focus (intro w; go_simp; try with_reducible rfl))
        try simp only [Act.put, List.setIfInBounds_toArray, List.set_cons_zero, List.set_cons_succ]
        (refine wpAnyP_takeL (i := 9) (v := ?_) rfl (by kernel_rfl) (by kernel_rfl) (by kernel_rfl) (fun _ _ _ h => h) (by rfl) ?_ ?_; rotate_left 1; focus (intro w; go_simp; try with_reducible rfl))
        try simp only [Act.put, List.setIfInBounds_toArray, List.set_cons_zero, List.set_cons_succ]
        (refine wpAnyP_loadL (i := 10) (v := ?_) rfl (by kernel_rfl) (by kernel_rfl) (by kernel_rfl) (by rfl) (fun _ _ _ h => h) hF0 (by rfl) ?_ ?_; rotate_left 1; focus (intro w hFw; (try dsimp only at hFw); go_split_ands; go_simp; try with_reducible rfl))
        try simp only [Act.put, List.setIfInBounds_toArray, List.set_cons_zero, List.set_cons_succ]
        (refine wpAnyP_takeL (i := 11) (v := ?_) rfl (by kernel_rfl) (by kernel_rfl) (by kernel_rfl) (fun _ _ _ h => h) (by rfl) ?_ ?_; rotate_left 1; focus (intro w; go_simp; try with_reducible rfl))
        try simp only [Act.put, List.setIfInBounds_toArray, List.set_cons_zero, List.set_cons_succ]
        (refine wpAnyP_loadL (i := 12) (v := ?_) rfl (by kernel_rfl) (by kernel_rfl) (by kernel_rfl) (by rfl) (fun _ _ _ h => h) hF0 (by rfl) ?_ ?_; rotate_left 1; focus (intro w hFw; (try dsimp only at hFw); go_split_ands; go_simp; try with_reducible rfl))
        try simp only [Act.put, List.setIfInBounds_toArray, List.set_cons_zero, List.set_cons_succ]
        (refine wpAnyP_takeL (i := 13) (v := ?_) rfl (by kernel_rfl) (by kernel_rfl) (by kernel_rfl) (fun _ _ _ h => h) (by rfl) ?_ ?_; rotate_left 1; focus (intro w; go_simp; try with_reducible rfl))
        try simp only [Act.put, List.setIfInBounds_toArray, List.set_cons_zero, List.set_cons_succ]
        (refine wpAnyP_takeL (i := 14) (v := ?_) rfl (by kernel_rfl) (by kernel_rfl) (by kernel_rfl) (fun _ _ _ h => h) (by rfl) ?_ ?_; rotate_left 1; focus (intro w; go_simp; try with_reducible rfl))
        try simp only [Act.put, List.setIfInBounds_toArray, List.set_cons_zero, List.set_cons_succ]
        refine wpAnyP_last (i := 15) rfl (by kernel_rfl) (by kernel_rfl) (by rfl) (fun K hK => ?_)
        go_simp
        (have f1 := HHC.out.2; have e1 := HHC.out.1; go_simp; clear f1 e1)
        (refine hK _ _ ?_; clear hK K)
        try simp only [Act.put, List.setIfInBounds_toArray, List.set_cons_zero, List.set_cons_succ]
        refine wpAnyP_done (by kernel_rfl) ?_ _
        go_wp2_with fail
        refine ⟨⟨k + 1, by omega, by go_num, HS2.out.drew.congr (fun b _ _ => rfl) (fun b _ _ => HSR.out.1 b) (fun b _ _ => HSR.out.2 b), by have := HZ6.out; simp [World.setCell, World.drew]; exact this⟩, by simp [intOf]; omega⟩
      · obtain rfl : k = no := by omega
        have HS1 := Lib.hid (show GoSt w wr d B G H D nb cb nm cm Ab Am (hasAt (bsF bs) (ms.take 0)) (ownAt (ownOf (bsF bs) l) (ms.take 0) []) (hadT bs (ms.take 0) l []) (.slice none 0 0) from
          hS.congr (fun b _ _ => rfl) (fun b _ _ => by rw [HNO.out, List.take_length]; rfl) (fun b _ _ => by rw [HNO.out, List.take_length]; simp [hadT, hitX]))
        have HN3 := Lib.hid (show GoNe w wr.heap.size d B G H D from ⟨HN2.out.d, ⟨HN2.out.b.1, Nat.lt_of_lt_of_le HN2.out.b.2 hzr⟩, ⟨HN2.out.g.1, Nat.lt_of_lt_of_le HN2.out.g.2 hzr⟩, ⟨HN2.out.h.1, Nat.lt_of_lt_of_le HN2.out.h.2 hzr⟩, ⟨HN2.out.e.1, Nat.lt_of_lt_of_le HN2.out.e.2 hzr⟩, HN2.out.bg, HN2.out.bh, HN2.out.bd, HN2.out.gh, HN2.out.gd, HN2.out.hd⟩)
        clear hS HS0 HN2
        obtain ⟨wl, rfl⟩ : ∃ wl : World, wl = wr := ⟨_, rfl⟩
        go_wp2_with fail
        go_loopw [10] (fun i wr => ∃ (k cT : Nat) (AT : Option Addr) (xs : List Int), k ≤ nm ∧ i = .int .i64 k ∧ xs.length = k ∧ isWay (bsF bs) (ownOf (bsF bs) l) (ms.take k) xs ∧ GoSt w wr d B G H D nb cb nm cm Ab Am (hasAt (bsF bs) (ms.take k)) (ownAt (ownOf (bsF bs) l) (ms.take k) xs) (hadT bs (ms.take k) l xs) (.slice AT k cT) ∧
          wr.ownsRow wl.heap.size 3 1 (.slice AT k cT) k (xs.flatMap encI) ∧ wl.heap.size ≤ wr.heap.size) (fun i _ => nm - (intOf i).toNat)
        case atStart => exact ⟨0, 0, none, [], Nat.zero_le _, rfl, rfl, trivial, HS1.out, World.ownsRow_nil _ _ _ _, Nat.le_refl _⟩
        case round =>
          obtain ⟨k, cT, AT, xs, hk, rfl, hxl, hway, hS, hown, hzr2⟩ := hrel
          by_cases hlt : k < nm
          · have hkm : k < ms.length := by have := HNM.out; omega
            have hHH := HHH.out
            obtain ⟨om, rfl, hmz, m0, m1, m2⟩ := (HM.out.m.grown hS.low (fun _ e => hHH.2.1 (by injection e))).atM hkm
            have hOK := HN.out.at_ hkm
            have hwl := way_len hway
            have hbd := way_bounds (HN.out.ms.take k) hway (fun b _ _ => ⟨ownOf_nonneg HN.out.pos l b, ownOf_le HN.out.pos l b⟩)
            have hhb := HN.out.has_bd k
            have hTK : ms.take (k + 1) = ms.take k ++ [ms[k]] := by rw [List.take_add_one, List.getElem?_eq_getElem hkm]; rfl
            have HSTEP := Lib.hid (And.intro (show ∀ x : Int, 0 ≤ x → ms[k].g - (hasAt (bsF bs) (ms.take k) ms[k].fr - ownAt (ownOf (bsF bs) l) (ms.take k) xs ms[k].fr) ≤ x → x ≤ ms[k].g → x ≤ ownAt (ownOf (bsF bs) l) (ms.take k) xs ms[k].fr → isWay (bsF bs) (ownOf (bsF bs) l) (ms.take k ++ [ms[k]]) (xs ++ [x]) from fun x h0 h1 h2 h3 => way_snoc hway h0 h1 h2 h3)
              (And.intro (fun x => ownAt_snoc (ownOf (bsF bs) l) (ms.take k) xs ms[k] x hwl) (And.intro (hasAt_snoc (bsF bs) (ms.take k) ms[k]) (fun b x => hitX_snoc b (ms.take k) xs ms[k] x hwl))))
            rw [← hTK] at HSTEP
            obtain ⟨hf0, hf1, ht0, ht1, hne, hg0, hg1⟩ := hOK
            generalize hmm : ms[k] = mk at m0 m1 m2 HSTEP hf0 hf1 ht0 ht1 hne hg0 hg1
            clear hmm hTK
            obtain ⟨fi, ti, g⟩ := mk
            simp only at m0 m1 m2 hf0 hf1 ht0 ht1 hne hg0 hg1
            obtain ⟨f, rfl⟩ := Int.eq_ofNat_of_zero_le hf0
            obtain ⟨tt, rfl⟩ := Int.eq_ofNat_of_zero_le ht0
            have hfb : f < nb := by have := HNB.out; omega
            have htb : tt < nb := by have := HNB.out; omega
            have hne2 : f ≠ tt := by omega
            obtain ⟨bf0, bf1⟩ := hhb f
            obtain ⟨bt0, bt1⟩ := hhb tt
            obtain ⟨of0, of1⟩ := hbd f (by omega) hf1
            obtain ⟨ot0, ot1⟩ := hbd tt (by omega) ht1
            obtain ⟨hf, ehf⟩ : ∃ x, x = hasAt (bsF bs) (ms.take k) f := ⟨_, rfl⟩
            obtain ⟨ht, eht⟩ : ∃ x, x = hasAt (bsF bs) (ms.take k) tt := ⟨_, rfl⟩
            obtain ⟨of, eof⟩ : ∃ x, x = ownAt (ownOf (bsF bs) l) (ms.take k) xs f := ⟨_, rfl⟩
            obtain ⟨ot, eot⟩ : ∃ x, x = ownAt (ownOf (bsF bs) l) (ms.take k) xs tt := ⟨_, rfl⟩
            rw [← ehf] at hg1 bf0 bf1 of1
            rw [← eht] at bt0 bt1 ot1
            rw [← eof] at of0 of1
            rw [← eot] at ot0 ot1
            have k0 : (0 : Int) ≤ (k : Int) := by omega
            have k1 : (k : Int) < (nm : Int) := by omega
            have f0 : (0 : Int) ≤ (f : Int) := by omega
            have f1 : (f : Int) < (nb : Int) := by omega
            have t0 : (0 : Int) ≤ (tt : Int) := by omega
            have t1 : (tt : Int) < (nb : Int) := by omega
            have HEQ := Lib.hid (And.intro ehf (And.intro eht (And.intro eof eot)))
            have HLT := Lib.hid hown.lt
            have HOWN := Lib.hid hown
            have HWAY := Lib.hid hway
            have n1 := hS.net.cell 1
            have HS := Lib.hid hS
            have hlen1 := has_len nb (hasAt (bsF bs) (ms.take k))
            clear hS hown hway hbd hhb hwl hHH ehf eht eof eot hf0 hf1 ht0 ht1 hmz HS1
            go_upto_region 12 with fail
            have hMB := (Blk.new wr 70 #[.int .i64 f, .int .i64 tt, .int .i64 g]).drew
            have hS2 := (HS.out.alloc (.cells #[.int .i64 f, .int .i64 tt, .int .i64 g] 70)).drew
            obtain ⟨Bm, hBm⟩ : ∃ b, b = wr.heap.size := ⟨_, rfl⟩
            have hO2 : (wr.alloc (.cells #[.int .i64 f, .int .i64 tt, .int .i64 g] 70)).drew.ownsRow wl.heap.size 3 1 (.slice AT k cT) k (xs.flatMap encI) := HOWN.out.alloc _
            obtain ⟨W1, hW1⟩ : ∃ W1, wr.alloc (.cells #[.int .i64 f, .int .i64 tt, .int .i64 g] 70) = W1 := ⟨_, rfl⟩
            rw [hW1] at hMB hS2 hO2 ⊢
            rw [← hBm] at hMB ⊢
            have hBz : wl.heap.size ≤ Bm := by omega
            have hz12 : wl.heap.size ≤ W1.heap.size := by rw [← hW1]; simp; omega
            have HFX := Lib.hid (fun (W : World) (hM : Blk W Bm 70 #[.int .i64 (f : Int), .int .i64 (tt : Int), .int .i64 g]) (hS : GoSt w W d B G H D nb cb nm cm Ab (some ⟨b2, om, none⟩) (hasAt (bsF bs) (ms.take k)) (ownAt (ownOf (bsF bs) l) (ms.take k) xs) (hadT bs (ms.take k) l xs) (.slice AT k cT)) =>
              (show (W.cell? ⟨Bm, 0, none⟩ = some (.int .i64 (f : Int)) ∧ W.cell? ⟨Bm, 1, none⟩ = some (.int .i64 (tt : Int)) ∧ W.cell? ⟨Bm, 2, none⟩ = some (.int .i64 g)) ∧ W.cell? ⟨B, f, none⟩ = some (.int .i64 hf) ∧ W.cell? ⟨G, 1, none⟩ = some (.slice (some ⟨H, 0, none⟩) nb nb) ∧ W.cell? ⟨H, f, none⟩ = some (.int .i64 of) from by
                have cf := hS.has.cell (k := f) (by rw [has_len]; exact hfb)
                rw [has_get hfb, ← HEQ.out.1] at cf
                have co := hS.held.cell (k := f) (by rw [has_len]; exact hfb)
                rw [has_get hfb, ← HEQ.out.2.2.1] at co
                exact ⟨⟨hM.cell 0, hM.cell 1, hM.cell 2⟩, cf, hS.goes.cell 1, co⟩))
            have HMB := Lib.hid hMB
            have HS2 := Lib.hid hS2
            have HO2 := Lib.hid hO2
            have HLT2 := Lib.hid (fun g (e : Value.ownBlock (.slice AT k cT) = some g) => (by have := HLT.out g e; omega : g < Bm))
            clear hMB hS2 hO2 hW1 HS HOWN n1 m0 m1 m2 hBm HLT
            refine wp_region_PL [1, 4, 6, 8, 10, 12] (fun W => (W.cell? ⟨Bm, 0, none⟩ = some (.int .i64 (f : Int)) ∧ W.cell? ⟨Bm, 1, none⟩ = some (.int .i64 (tt : Int)) ∧ W.cell? ⟨Bm, 2, none⟩ = some (.int .i64 g)) ∧ W.cell? ⟨B, f, none⟩ = some (.int .i64 hf) ∧ W.cell? ⟨G, 1, none⟩ = some (.slice (some ⟨H, 0, none⟩) nb nb) ∧ W.cell? ⟨H, f, none⟩ = some (.int .i64 of)) rfl (by kernel_rfl) (HFX.out _ HMB.out HS2.out) (fun hF0 => ?_)
            (refine wpAnyP_takeL (i := 0) (v := ?_) rfl (by kernel_rfl) (by kernel_rfl) (by kernel_rfl) (fun _ _ _ h => h) (by rfl) ?_ ?_; rotate_left 1; focus (intro w; go_simp; try with_reducible rfl))
            try simp only [Act.put, List.setIfInBounds_toArray, List.set_cons_zero, List.set_cons_succ]
            (refine wpAnyP_loadL (i := 1) (v := ?_) rfl (by kernel_rfl) (by kernel_rfl) (by kernel_rfl) (by rfl) (fun _ _ _ h => h) hF0 (by rfl) ?_ ?_; rotate_left 1; focus (intro w hFw; (try dsimp only at hFw); go_split_ands; go_simp; try with_reducible rfl))
            try simp only [Act.put, List.setIfInBounds_toArray, List.set_cons_zero, List.set_cons_succ]
            (refine wpAnyP_takeL (i := 2) (v := ?_) rfl (by kernel_rfl) (by kernel_rfl) (by kernel_rfl) (fun _ _ _ h => h) (by rfl) ?_ ?_; rotate_left 1; focus (intro w; go_simp; try with_reducible rfl))
            try simp only [Act.put, List.setIfInBounds_toArray, List.set_cons_zero, List.set_cons_succ]
            (refine wpAnyP_takeL (i := 3) (v := ?_) rfl (by kernel_rfl) (by kernel_rfl) (by kernel_rfl) (fun _ _ _ h => h) (by rfl) ?_ ?_; rotate_left 1; focus (intro w; go_simp; try with_reducible rfl))
            try simp only [Act.put, List.setIfInBounds_toArray, List.set_cons_zero, List.set_cons_succ]
            (refine wpAnyP_loadL (i := 4) (v := ?_) rfl (by kernel_rfl) (by kernel_rfl) (by kernel_rfl) (by rfl) (fun _ _ _ h => h) hF0 (by rfl) ?_ ?_; rotate_left 1; focus (intro w hFw; (try dsimp only at hFw); go_split_ands; go_simp; try with_reducible rfl))
            try simp only [Act.put, List.setIfInBounds_toArray, List.set_cons_zero, List.set_cons_succ]
            (refine wpAnyP_takeL (i := 5) (v := ?_) rfl (by kernel_rfl) (by kernel_rfl) (by kernel_rfl) (fun _ _ _ h => h) (by rfl) ?_ ?_; rotate_left 1; focus (intro w; go_simp; try with_reducible rfl))
            try simp only [Act.put, List.setIfInBounds_toArray, List.set_cons_zero, List.set_cons_succ]
            (refine wpAnyP_loadL (i := 6) (v := ?_) rfl (by kernel_rfl) (by kernel_rfl) (by kernel_rfl) (by rfl) (fun _ _ _ h => h) hF0 (by rfl) ?_ ?_; rotate_left 1; focus (intro w hFw; (try dsimp only at hFw); go_split_ands; go_simp; try with_reducible rfl))
            try simp only [Act.put, List.setIfInBounds_toArray, List.set_cons_zero, List.set_cons_succ]
            (refine wpAnyP_takeL (i := 7) (v := ?_) rfl (by kernel_rfl) (by kernel_rfl) (by kernel_rfl) (fun _ _ _ h => h) (by rfl) ?_ ?_; rotate_left 1; focus (intro w; go_simp; try with_reducible rfl))
            try simp only [Act.put, List.setIfInBounds_toArray, List.set_cons_zero, List.set_cons_succ]
            (refine wpAnyP_loadL (i := 8) (v := ?_) rfl (by kernel_rfl) (by kernel_rfl) (by kernel_rfl) (by rfl) (fun _ _ _ h => h) hF0 (by rfl) ?_ ?_; rotate_left 1; focus (intro w hFw; (try dsimp only at hFw); go_split_ands; go_simp; try with_reducible rfl))
            try simp only [Act.put, List.setIfInBounds_toArray, List.set_cons_zero, List.set_cons_succ]
            (refine wpAnyP_takeL (i := 9) (v := ?_) rfl (by kernel_rfl) (by kernel_rfl) (by kernel_rfl) (fun _ _ _ h => h) (by rfl) ?_ ?_; rotate_left 1; focus (intro w; go_simp; try with_reducible rfl))
            try simp only [Act.put, List.setIfInBounds_toArray, List.set_cons_zero, List.set_cons_succ]
            (refine wpAnyP_loadL (i := 10) (v := ?_) rfl (by kernel_rfl) (by kernel_rfl) (by kernel_rfl) (by rfl) (fun _ _ _ h => h) hF0 (by rfl) ?_ ?_; rotate_left 1; focus (intro w hFw; (try dsimp only at hFw); go_split_ands; go_simp; try with_reducible rfl))
            try simp only [Act.put, List.setIfInBounds_toArray, List.set_cons_zero, List.set_cons_succ]
            (refine wpAnyP_takeL (i := 11) (v := ?_) rfl (by kernel_rfl) (by kernel_rfl) (by kernel_rfl) (fun _ _ _ h => h) (by rfl) ?_ ?_; rotate_left 1; focus (intro w; go_simp; try with_reducible rfl))
            try simp only [Act.put, List.setIfInBounds_toArray, List.set_cons_zero, List.set_cons_succ]
            (refine wpAnyP_loadL (i := 12) (v := ?_) rfl (by kernel_rfl) (by kernel_rfl) (by kernel_rfl) (by rfl) (fun _ _ _ h => h) hF0 (by rfl) ?_ ?_; rotate_left 1; focus (intro w hFw; (try dsimp only at hFw); go_split_ands; go_simp; try with_reducible rfl))
            try simp only [Act.put, List.setIfInBounds_toArray, List.set_cons_zero, List.set_cons_succ]
            refine wpAnyP_step (i := 13) rfl (by kernel_rfl) (by rfl) (fun K hK => ?_)
            go_simp
            (refine (bounds_any ⟨f, tt, g⟩ hf of _ (by omega) (by omega) (by omega) (by show 0 ≤ g; omega) (by show g ≤ 8000000; omega)).mono ?_; rintro e w3 ⟨rfl, hb3⟩; have hM3 := HMB.out.below hb3 HMB.out.lt; have hS3 := HS2.out.below hb3; have hO3 := ownsRow_below HO2.out hb3 (Nat.le_refl _); have hB34 := hb3.size; simp only [World.size_drew] at hB34; clear hb3)
            (refine hK _ _ (HFX.out _ hM3 hS3) (fun hF1 => ?_); clear hK K hF0)
            try simp only [Act.put, List.setIfInBounds_toArray, List.set_cons_zero, List.set_cons_succ]
            refine wpAnyP_step (i := 14) rfl (by kernel_rfl) (by rfl) (fun K hK => ?_)
            go_simp
            (refine (true_any d _ _ _ hS3.die (by omega) (by omega) (by omega)).mono ?_; rintro e w4 ⟨x, ⟨hx0, hx1⟩, rfl, hd4, hg4⟩; have hS4 := hS3.cast HN3.out hd4 hg4; have hM4 := hM3.grown hg4 (fun e => by have := HN3.out.d; have := HN3.out.b; injection e with e; omega); have hO4 := ownsRow_die hO3 hg4 (by have := HN3.out.d; have := HN3.out.b; omega))
            (refine hK _ _ (HFX.out _ hM4 hS4) (fun hF2 => ?_); clear hK K hF1)
            try simp only [Act.put, List.setIfInBounds_toArray, List.set_cons_zero, List.set_cons_succ]
            (refine wpAnyP_takeL (i := 15) (v := ?_) rfl (by kernel_rfl) (by kernel_rfl) (by kernel_rfl) (fun _ _ _ h => h) (by rfl) ?_ ?_; rotate_left 1; focus (intro w; go_simp; try with_reducible rfl))
            try simp only [Act.put, List.setIfInBounds_toArray, List.set_cons_zero, List.set_cons_succ]
            refine wpAnyP_done (by kernel_rfl) ?_ _
            have hz14 : W1.heap.size ≤ w4.heap.size := by have h1 := HMB.out.lt; have h3 := hg4.size; have h2 := hB34; omega
            have HX := Lib.hid (And.intro hx0 hx1)
            have HS4 := Lib.hid hS4
            have HM4 := Lib.hid hM4
            have HO4 := Lib.hid hO4
            have g0 := hS4.goes.cell 0
            have hgl : Bm < w4.heap.size := hM4.lt
            have hx2 : 0 ≤ x ∧ x ≤ 8000000 := by omega
            obtain ⟨hxa, hxb⟩ := hx2
            have hx3 : x ≤ of ∧ x ≤ g := by omega
            clear hS3 hM3 hO3 hS4 hM4 hO4 hd4 hg4 HO2 HS2 HMB HFX
            go_upto_region 14 with (at_builtin; refine wpList_append_sl rfl _ _ 22 rfl wl.heap.size 3 i0 _ 8 Try.underlying22 hi iz0 iz1 iz2 rfl (by omega) encI_len _ k _ rfl (HO4.out.alloc _) w4.heap.size _ 1 1 [x] rfl (Sl.newI w4 [x] 3) oneI (by unfold maxLen; omega) (by omega) (by simp; omega) ?_; intro A5 c5 w5 hown5 hgrow5 _; have hS5 := (HS4.out.alloc (.cells #[.int .i64 x] 3)).own HN3.out hgrow5 (fun r e => ((HO4.out.alloc (.cells #[.int .i64 x] 3)).lt r e).1); have hM5 := (HM4.out.alloc (.cells #[.int .i64 x] 3)).grown hgrow5 (fun e => by have := HLT2.out _ e.symm; omega); have HS5 := Lib.hid hS5; have HM5 := Lib.hid hM5; have HO5 := Lib.hid hown5; have g5 := hS5.goes.cell 0; have f5 := hS5.goes.frozen 0; have hz5 := hgrow5.size; simp only [World.size_alloc] at hz5; clear hS5 hM5 hown5 hgrow5)
            obtain ⟨W7, hW7⟩ : ∃ W7, w5.setCell ⟨G, 0, none⟩ (.slice A5 (k + 1) c5) = W7 := ⟨_, rfl⟩
            have hS7 : GoSt w W7 d B G H D nb cb nm cm Ab (some ⟨b2, om, none⟩) _ _ _ (.slice A5 (k + 1) c5) := hW7 ▸ HS5.out.setTv HN3.out (.slice A5 (k + 1) c5)
            have hM7 : Blk W7 Bm 70 _ := hW7 ▸ HM5.out.far (p := ⟨G, 0, none⟩) (by show Bm ≠ G; have := HN3.out.g; omega) _
            have hO7 : W7.ownsRow wl.heap.size 3 1 (.slice A5 (k + 1) c5) (k + 1) ((xs ++ [x]).flatMap encI) := by
              have h := ownsRow_setCell HO5.out (p := ⟨G, 0, none⟩) HN3.out.g.2 (.slice A5 (k + 1) c5)
              rw [hW7] at h
              rw [List.flatMap_append]
              exact h
            have hz7 : wl.heap.size ≤ W7.heap.size := by rw [← hW7]; simp [World.setCell]; omega
            rw [hW7]
            clear hW7 f5 g5 g0 HS5 HM5 HO5 HS4 HM4 HO4 HLT2 HX
            have hc1 := hS7.held.cell (k := f) (by rw [has_len]; exact hfb)
            rw [has_get hfb, ← HEQ.out.2.2.1] at hc1
            have hc2 := hS7.held.cell (k := tt) (by rw [has_len]; exact htb)
            rw [has_get htb, ← HEQ.out.2.2.2] at hc2
            have hA := hS7.drew.setHeld HN3.out hfb (of - x) (rowF_set _ _)
            have hMA := hM7.drew.far (p := ⟨H, f, none⟩) (by show Bm ≠ H; have := HN3.out.h; omega) (.int .i64 (of - x))
            have hcA := hA.held.cell (k := tt) (by rw [has_len]; exact htb)
            rw [has_get htb, if_neg (by omega), ← HEQ.out.2.2.2] at hcA
            have hB := hA.setHeld HN3.out htb (ot + x) (rowF_set _ _)
            have hMB := hMA.far (p := ⟨H, tt, none⟩) (by show Bm ≠ H; have := HN3.out.h; omega) (.int .i64 (ot + x))
            have HA := Lib.hid (And.intro (hA.goes.cell 1) (And.intro (hMA.cell 0) (hMA.cell 1)))
            have HFR := Lib.hid (And.intro (hS7.held.frozen f) (hS7.held.frozen tt))
            have HB := Lib.hid hB
            have HMB := Lib.hid hMB
            have HC := Lib.hid (And.intro hc1 hc2)
            have HF2 := Lib.hid (show W7.drew.cell? ⟨G, 1, none⟩ = some (.slice (some ⟨H, 0, none⟩) nb nb) ∧ W7.drew.cell? ⟨Bm, 0, none⟩ = some (.int .i64 (f : Int)) ∧ W7.drew.cell? ⟨Bm, 1, none⟩ = some (.int .i64 (tt : Int)) from ⟨hS7.drew.goes.cell 1, hM7.drew.cell 0, hM7.drew.cell 1⟩)
            have HO7 := Lib.hid hO7
            have HW1 := Lib.hid (show IntKind.i64.wrap (of - x) = of - x from IntWalk.i64_in _ (by omega))
            have HW2 := Lib.hid (show IntKind.i64.wrap (ot + x) = ot + x from IntWalk.i64_in _ (by omega))
            clear hA hMA hB hMB hc1 hc2 hcA hS7 hM7 hO7
            refine wp_region_K2 [13, 21] [1, 3, 5, 7, 9, 11, 17, 19] (fun W => W.cell? ⟨H, f, none⟩ = some (.int .i64 of) ∧ W.cell? ⟨H, tt, none⟩ = some (.int .i64 ot)) (fun W => W.cell? ⟨G, 1, none⟩ = some (.slice (some ⟨H, 0, none⟩) nb nb) ∧ W.cell? ⟨Bm, 0, none⟩ = some (.int .i64 (f : Int)) ∧ W.cell? ⟨Bm, 1, none⟩ = some (.int .i64 (tt : Int))) rfl (by kernel_rfl) (HC.out) (HF2.out) (fun hF0 hG0 => ?_)
            (refine wpAnyK_takeL Keep2.refl (i := 0) (v := ?_) rfl (by kernel_rfl) (by kernel_rfl) (by kernel_rfl) (fun _ _ _ h => h) (by rfl) ?_ ?_; rotate_left 1; focus (intro w; go_simp; try with_reducible rfl))
            try simp only [Act.put, List.setIfInBounds_toArray, List.set_cons_zero, List.set_cons_succ]
            (refine wpAnyK_loadL Keep2.refl (i := 1) (v := ?_) rfl (Keep2.right (i := 1) (by rfl)) (by kernel_rfl) (by kernel_rfl) (by kernel_rfl) (fun _ _ _ h => h) hG0 (by rfl) ?_ ?_; rotate_left 1; focus (intro w hFw; (try dsimp only at hFw); go_split_ands; go_simp; try with_reducible rfl))
            try simp only [Act.put, List.setIfInBounds_toArray, List.set_cons_zero, List.set_cons_succ]
            (refine wpAnyK_takeL Keep2.refl (i := 2) (v := ?_) rfl (by kernel_rfl) (by kernel_rfl) (by kernel_rfl) (fun _ _ _ h => h) (by rfl) ?_ ?_; rotate_left 1; focus (intro w; go_simp; try with_reducible rfl))
            try simp only [Act.put, List.setIfInBounds_toArray, List.set_cons_zero, List.set_cons_succ]
            (refine wpAnyK_loadL Keep2.refl (i := 3) (v := ?_) rfl (Keep2.right (i := 3) (by rfl)) (by kernel_rfl) (by kernel_rfl) (by kernel_rfl) (fun _ _ _ h => h) hG0 (by rfl) ?_ ?_; rotate_left 1; focus (intro w hFw; (try dsimp only at hFw); go_split_ands; go_simp; try with_reducible rfl))
            try simp only [Act.put, List.setIfInBounds_toArray, List.set_cons_zero, List.set_cons_succ]
            (refine wpAnyK_takeL Keep2.refl (i := 4) (v := ?_) rfl (by kernel_rfl) (by kernel_rfl) (by kernel_rfl) (fun _ _ _ h => h) (by rfl) ?_ ?_; rotate_left 1; focus (intro w; go_simp; try with_reducible rfl))
            try simp only [Act.put, List.setIfInBounds_toArray, List.set_cons_zero, List.set_cons_succ]
            (refine wpAnyK_loadL Keep2.refl (i := 5) (v := ?_) rfl (Keep2.right (i := 5) (by rfl)) (by kernel_rfl) (by kernel_rfl) (by kernel_rfl) (fun _ _ _ h => h) hG0 (by rfl) ?_ ?_; rotate_left 1; focus (intro w hFw; (try dsimp only at hFw); go_split_ands; go_simp; try with_reducible rfl))
            try simp only [Act.put, List.setIfInBounds_toArray, List.set_cons_zero, List.set_cons_succ]
            (refine wpAnyK_takeL Keep2.refl (i := 6) (v := ?_) rfl (by kernel_rfl) (by kernel_rfl) (by kernel_rfl) (fun _ _ _ h => h) (by rfl) ?_ ?_; rotate_left 1; focus (intro w; go_simp; try with_reducible rfl))
            try simp only [Act.put, List.setIfInBounds_toArray, List.set_cons_zero, List.set_cons_succ]
            (refine wpAnyK_loadL Keep2.refl (i := 7) (v := ?_) rfl (Keep2.right (i := 7) (by rfl)) (by kernel_rfl) (by kernel_rfl) (by kernel_rfl) (fun _ _ _ h => h) hG0 (by rfl) ?_ ?_; rotate_left 1; focus (intro w hFw; (try dsimp only at hFw); go_split_ands; go_simp; try with_reducible rfl))
            try simp only [Act.put, List.setIfInBounds_toArray, List.set_cons_zero, List.set_cons_succ]
            (refine wpAnyK_takeL Keep2.refl (i := 8) (v := ?_) rfl (by kernel_rfl) (by kernel_rfl) (by kernel_rfl) (fun _ _ _ h => h) (by rfl) ?_ ?_; rotate_left 1; focus (intro w; go_simp; try with_reducible rfl))
            try simp only [Act.put, List.setIfInBounds_toArray, List.set_cons_zero, List.set_cons_succ]
            (refine wpAnyK_loadL Keep2.refl (i := 9) (v := ?_) rfl (Keep2.right (i := 9) (by rfl)) (by kernel_rfl) (by kernel_rfl) (by kernel_rfl) (fun _ _ _ h => h) hG0 (by rfl) ?_ ?_; rotate_left 1; focus (intro w hFw; (try dsimp only at hFw); go_split_ands; go_simp; try with_reducible rfl))
            try simp only [Act.put, List.setIfInBounds_toArray, List.set_cons_zero, List.set_cons_succ]
            (refine wpAnyK_takeL Keep2.refl (i := 10) (v := ?_) rfl (by kernel_rfl) (by kernel_rfl) (by kernel_rfl) (fun _ _ _ h => h) (by rfl) ?_ ?_; rotate_left 1; focus (intro w; go_simp; try with_reducible rfl))
            try simp only [Act.put, List.setIfInBounds_toArray, List.set_cons_zero, List.set_cons_succ]
            (refine wpAnyK_loadL Keep2.refl (i := 11) (v := ?_) rfl (Keep2.right (i := 11) (by rfl)) (by kernel_rfl) (by kernel_rfl) (by kernel_rfl) (fun _ _ _ h => h) hG0 (by rfl) ?_ ?_; rotate_left 1; focus (intro w hFw; (try dsimp only at hFw); go_split_ands; go_simp; try with_reducible rfl))
            try simp only [Act.put, List.setIfInBounds_toArray, List.set_cons_zero, List.set_cons_succ]
            (refine wpAnyK_takeL Keep2.refl (i := 12) (v := ?_) rfl (by kernel_rfl) (by kernel_rfl) (by kernel_rfl) (fun _ _ _ h => h) (by rfl) ?_ ?_; rotate_left 1; focus (intro w; go_simp; try with_reducible rfl))
            try simp only [Act.put, List.setIfInBounds_toArray, List.set_cons_zero, List.set_cons_succ]
            (refine wpAnyK_loadL Keep2.refl (i := 13) (v := ?_) rfl (Keep2.left (i := 13) (by rfl)) (by kernel_rfl) (by kernel_rfl) (by kernel_rfl) (fun _ _ _ h => h) hF0 (by rfl) ?_ ?_; rotate_left 1; focus (intro w hFw; (try dsimp only at hFw); go_split_ands; go_simp; try with_reducible rfl))
            try simp only [Act.put, List.setIfInBounds_toArray, List.set_cons_zero, List.set_cons_succ]
            (refine wpAnyK_takeL Keep2.refl (i := 14) (v := ?_) rfl (by kernel_rfl) (by kernel_rfl) (by kernel_rfl) (fun _ _ _ h => h) (by rfl) ?_ ?_; rotate_left 1; focus (intro w; go_simp; try with_reducible rfl))
            try simp only [Act.put, List.setIfInBounds_toArray, List.set_cons_zero, List.set_cons_succ]
            (refine wpAnyK_takeL Keep2.refl (i := 15) (v := ?_) rfl (by kernel_rfl) (by kernel_rfl) (by kernel_rfl) (fun _ _ _ h => h) (by rfl) ?_ ?_; rotate_left 1; focus (intro w; go_simp; (first | (rw [HW1.out]) | (with_reducible rfl))))
            try simp only [Act.put, List.setIfInBounds_toArray, List.set_cons_zero, List.set_cons_succ]
            (refine wpAnyK_takeL Keep2.refl (i := 16) (v := ?_) rfl (by kernel_rfl) (by kernel_rfl) (by kernel_rfl) (fun _ _ _ h => h) (by rfl) ?_ ?_; rotate_left 1; focus (intro w; go_simp; try with_reducible rfl))
            try simp only [Act.put, List.setIfInBounds_toArray, List.set_cons_zero, List.set_cons_succ]
            (refine wpAnyK_loadL Keep2.refl (i := 17) (v := ?_) rfl (Keep2.right (i := 17) (by rfl)) (by kernel_rfl) (by kernel_rfl) (by kernel_rfl) (fun _ _ _ h => h) hG0 (by rfl) ?_ ?_; rotate_left 1; focus (intro w hFw; (try dsimp only at hFw); go_split_ands; go_simp; try with_reducible rfl))
            try simp only [Act.put, List.setIfInBounds_toArray, List.set_cons_zero, List.set_cons_succ]
            (refine wpAnyK_takeL Keep2.refl (i := 18) (v := ?_) rfl (by kernel_rfl) (by kernel_rfl) (by kernel_rfl) (fun _ _ _ h => h) (by rfl) ?_ ?_; rotate_left 1; focus (intro w; go_simp; try with_reducible rfl))
            try simp only [Act.put, List.setIfInBounds_toArray, List.set_cons_zero, List.set_cons_succ]
            (refine wpAnyK_loadL Keep2.refl (i := 19) (v := ?_) rfl (Keep2.right (i := 19) (by rfl)) (by kernel_rfl) (by kernel_rfl) (by kernel_rfl) (fun _ _ _ h => h) hG0 (by rfl) ?_ ?_; rotate_left 1; focus (intro w hFw; (try dsimp only at hFw); go_split_ands; go_simp; try with_reducible rfl))
            try simp only [Act.put, List.setIfInBounds_toArray, List.set_cons_zero, List.set_cons_succ]
            (refine wpAnyK_takeL Keep2.refl (i := 20) (v := ?_) rfl (by kernel_rfl) (by kernel_rfl) (by kernel_rfl) (fun _ _ _ h => h) (by rfl) ?_ ?_; rotate_left 1; focus (intro w; go_simp; try with_reducible rfl))
            try simp only [Act.put, List.setIfInBounds_toArray, List.set_cons_zero, List.set_cons_succ]
            (refine wpAnyK_loadL Keep2.refl (i := 21) (v := ?_) rfl (Keep2.left (i := 21) (by rfl)) (by kernel_rfl) (by kernel_rfl) (by kernel_rfl) (fun _ _ _ h => h) hF0 (by rfl) ?_ ?_; rotate_left 1; focus (intro w hFw; (try dsimp only at hFw); go_split_ands; go_simp; try with_reducible rfl))
            try simp only [Act.put, List.setIfInBounds_toArray, List.set_cons_zero, List.set_cons_succ]
            (refine wpAnyK_takeL Keep2.refl (i := 22) (v := ?_) rfl (by kernel_rfl) (by kernel_rfl) (by kernel_rfl) (fun _ _ _ h => h) (by rfl) ?_ ?_; rotate_left 1; focus (intro w; go_simp; try with_reducible rfl))
            try simp only [Act.put, List.setIfInBounds_toArray, List.set_cons_zero, List.set_cons_succ]
            (refine wpAnyK_takeL Keep2.refl (i := 23) (v := ?_) rfl (by kernel_rfl) (by kernel_rfl) (by kernel_rfl) (fun _ _ _ h => h) (by rfl) ?_ ?_; rotate_left 1; focus (intro w; go_simp; (first | (rw [HW2.out]) | (with_reducible rfl))))
            try simp only [Act.put, List.setIfInBounds_toArray, List.set_cons_zero, List.set_cons_succ]
            (refine wpAnyK_takeL Keep2.refl (i := 24) (v := ?_) rfl (by kernel_rfl) (by kernel_rfl) (by kernel_rfl) (fun _ _ _ h => h) (by rfl) ?_ ?_; rotate_left 1; focus (intro w; go_simp; try with_reducible rfl))
            try simp only [Act.put, List.setIfInBounds_toArray, List.set_cons_zero, List.set_cons_succ]
            refine wpAnyK_step (i := 25) rfl (by kernel_rfl) (by rfl) (fun K hK => ?_)
            go_simp
            (have f1 := HFR.out.1; have e1 := HC.out.1; go_simp; clear f1 e1)
            (refine hK _ _ (Keep2.no1 (by kernel_rfl) (fun _ => HA.out)) ?_; clear hK K)
            (refine wpAnyK_with (F := fun W => W.cell? ⟨G, 1, none⟩ = some (.slice (some ⟨H, 0, none⟩) nb nb) ∧ W.cell? ⟨Bm, 0, none⟩ = some (.int .i64 (f : Int)) ∧ W.cell? ⟨Bm, 1, none⟩ = some (.int .i64 (tt : Int))) (HA.out) (fun hG1 => ?_); clear hG0)
            try simp only [Act.put, List.setIfInBounds_toArray, List.set_cons_zero, List.set_cons_succ]
            (refine wpAnyK_takeL Keep2.refl (i := 26) (v := ?_) rfl (by kernel_rfl) (by kernel_rfl) (by kernel_rfl) (fun _ _ _ h => h) (by rfl) ?_ ?_; rotate_left 1; focus (intro w; go_simp; try with_reducible rfl))
            try simp only [Act.put, List.setIfInBounds_toArray, List.set_cons_zero, List.set_cons_succ]
            refine wpAnyK_step (i := 27) rfl (by kernel_rfl) (by rfl) (fun K hK => ?_)
            go_simp
            (have f1 := HFR.out.2; have e1 := HC.out.2; go_simp; clear f1 e1)
            (refine hK _ _ (Keep2.no (by kernel_rfl) (by kernel_rfl)) ?_; clear hK K)
            try simp only [Act.put, List.setIfInBounds_toArray, List.set_cons_zero, List.set_cons_succ]
            refine wpAnyK_done (by kernel_rfl) ?_ _
            obtain ⟨W8, hW8⟩ : ∃ W8, ((W7.setCell ⟨H, f, none⟩ (.int .i64 (of - x))).setCell ⟨H, tt, none⟩ (.int .i64 (ot + x))).drew = W8 := ⟨_, rfl⟩
            have hz8 : wl.heap.size ≤ W8.heap.size := by rw [← hW8]; simp [World.setCell, World.drew]; exact hz7
            have hS8 : GoSt w W8 d B G H D nb cb nm cm Ab (some ⟨b2, om, none⟩) (hasAt (bsF bs) (ms.take k)) (ownAt (ownOf (bsF bs) l) (ms.take (k + 1)) (xs ++ [x])) (hadT bs (ms.take k) l xs) (.slice A5 (k + 1) c5) := by
              have h := HB.out
              rw [← hW8]
              refine GoSt.congr (show GoSt w ((W7.setCell ⟨H, f, none⟩ (.int .i64 (of - x))).setCell ⟨H, tt, none⟩ (.int .i64 (ot + x))).drew d B G H D nb cb nm cm Ab (some ⟨b2, om, none⟩) _ _ _ (.slice A5 (k + 1) c5) from h) (fun _ _ _ => rfl) (fun b _ _ => ?_) (fun _ _ _ => rfl)
              rw [HSTEP.out.2.1 x]
              simp only [mvx, mvd]
              have e3 := HEQ.out.2.2.1
              have e4 := HEQ.out.2.2.2
              by_cases h1 : b = (tt : Int)
              · subst h1
                rw [if_pos rfl, if_neg (by omega), if_pos rfl]
                omega
              · rw [if_neg h1, if_neg h1]
                by_cases h2 : b = (f : Int)
                · subst h2; rw [if_pos rfl, if_pos rfl]; omega
                · rw [if_neg h2, if_neg h2]; omega
            have hM8 : Blk W8 Bm 70 #[.int .i64 (f : Int), .int .i64 (tt : Int), .int .i64 g] := by rw [← hW8]; exact HMB.out
            have hO8 : W8.ownsRow wl.heap.size 3 1 (.slice A5 (k + 1) c5) (k + 1) ((xs ++ [x]).flatMap encI) := by
              rw [← hW8]
              exact ownsRow_setCell (ownsRow_setCell HO7.out (p := ⟨H, f, none⟩) HN3.out.h.2 _) (p := ⟨H, tt, none⟩) HN3.out.h.2 _
            rw [hW8]
            clear hW8 HB HMB HO7 HC HF2 HA HFR hz7
            have hc1 := hS8.has.cell (k := f) (by rw [has_len]; exact hfb)
            rw [has_get hfb, ← HEQ.out.1] at hc1
            have hc2 := hS8.has.cell (k := tt) (by rw [has_len]; exact htb)
            rw [has_get htb, ← HEQ.out.2.1] at hc2
            have hA := hS8.drew.setHas HN3.out hfb (hf - g) (rowF_set _ _)
            have hMA := hM8.drew.far (p := ⟨B, f, none⟩) (by show Bm ≠ B; have := HN3.out.b; omega) (.int .i64 (hf - g))
            have hB := hA.setHas HN3.out htb (ht + g) (rowF_set _ _)
            have hMB := hMA.far (p := ⟨B, tt, none⟩) (by show Bm ≠ B; have := HN3.out.b; omega) (.int .i64 (ht + g))
            have HA := Lib.hid (And.intro (hMA.cell 0) (And.intro (hMA.cell 1) (hMA.cell 2)))
            have HFR := Lib.hid (And.intro (hS8.has.frozen f) (hS8.has.frozen tt))
            have HB := Lib.hid hB
            have HMB := Lib.hid hMB
            have HC := Lib.hid (And.intro hc1 hc2)
            have HF2 := Lib.hid (show W8.drew.cell? ⟨Bm, 0, none⟩ = some (.int .i64 (f : Int)) ∧ W8.drew.cell? ⟨Bm, 1, none⟩ = some (.int .i64 (tt : Int)) ∧ W8.drew.cell? ⟨Bm, 2, none⟩ = some (.int .i64 g) from ⟨hM8.drew.cell 0, hM8.drew.cell 1, hM8.drew.cell 2⟩)
            have HO8 := Lib.hid hO8
            have HW3 := Lib.hid (show IntKind.i64.wrap (hf - g) = hf - g from IntWalk.i64_in _ (by omega))
            have HW4 := Lib.hid (show IntKind.i64.wrap (ht + g) = ht + g from IntWalk.i64_in _ (by omega))
            clear hA hMA hB hMB hc1 hc2 hS8 hM8 hO8 HW1 HW2
            go_upto_region 15 with fail
            refine wp_region_K2 [10, 18] [2, 5, 8, 12, 16, 20] (fun W => W.cell? ⟨B, f, none⟩ = some (.int .i64 hf) ∧ W.cell? ⟨B, tt, none⟩ = some (.int .i64 ht)) (fun W => W.cell? ⟨Bm, 0, none⟩ = some (.int .i64 (f : Int)) ∧ W.cell? ⟨Bm, 1, none⟩ = some (.int .i64 (tt : Int)) ∧ W.cell? ⟨Bm, 2, none⟩ = some (.int .i64 g)) rfl (by kernel_rfl) (HC.out) (HF2.out) (fun hF0 hG0 => ?_)
            (refine wpAnyK_takeL Keep2.refl (i := 0) (v := ?_) rfl (by kernel_rfl) (by kernel_rfl) (by kernel_rfl) (fun _ _ _ h => h) (by rfl) ?_ ?_; rotate_left 1; focus (intro w; go_simp; try with_reducible rfl))
            try simp only [Act.put, List.setIfInBounds_toArray, List.set_cons_zero, List.set_cons_succ]
            (refine wpAnyK_takeL Keep2.refl (i := 1) (v := ?_) rfl (by kernel_rfl) (by kernel_rfl) (by kernel_rfl) (fun _ _ _ h => h) (by rfl) ?_ ?_; rotate_left 1; focus (intro w; go_simp; try with_reducible rfl))
            try simp only [Act.put, List.setIfInBounds_toArray, List.set_cons_zero, List.set_cons_succ]
            (refine wpAnyK_loadL Keep2.refl (i := 2) (v := ?_) rfl (Keep2.right (i := 2) (by rfl)) (by kernel_rfl) (by kernel_rfl) (by kernel_rfl) (fun _ _ _ h => h) hG0 (by rfl) ?_ ?_; rotate_left 1; focus (intro w hFw; (try dsimp only at hFw); go_split_ands; go_simp; try with_reducible rfl))
            try simp only [Act.put, List.setIfInBounds_toArray, List.set_cons_zero, List.set_cons_succ]
            (refine wpAnyK_takeL Keep2.refl (i := 3) (v := ?_) rfl (by kernel_rfl) (by kernel_rfl) (by kernel_rfl) (fun _ _ _ h => h) (by rfl) ?_ ?_; rotate_left 1; focus (intro w; go_simp; try with_reducible rfl))
            try simp only [Act.put, List.setIfInBounds_toArray, List.set_cons_zero, List.set_cons_succ]
            (refine wpAnyK_takeL Keep2.refl (i := 4) (v := ?_) rfl (by kernel_rfl) (by kernel_rfl) (by kernel_rfl) (fun _ _ _ h => h) (by rfl) ?_ ?_; rotate_left 1; focus (intro w; go_simp; try with_reducible rfl))
            try simp only [Act.put, List.setIfInBounds_toArray, List.set_cons_zero, List.set_cons_succ]
            (refine wpAnyK_loadL Keep2.refl (i := 5) (v := ?_) rfl (Keep2.right (i := 5) (by rfl)) (by kernel_rfl) (by kernel_rfl) (by kernel_rfl) (fun _ _ _ h => h) hG0 (by rfl) ?_ ?_; rotate_left 1; focus (intro w hFw; (try dsimp only at hFw); go_split_ands; go_simp; try with_reducible rfl))
            try simp only [Act.put, List.setIfInBounds_toArray, List.set_cons_zero, List.set_cons_succ]
            (refine wpAnyK_takeL Keep2.refl (i := 6) (v := ?_) rfl (by kernel_rfl) (by kernel_rfl) (by kernel_rfl) (fun _ _ _ h => h) (by rfl) ?_ ?_; rotate_left 1; focus (intro w; go_simp; try with_reducible rfl))
            try simp only [Act.put, List.setIfInBounds_toArray, List.set_cons_zero, List.set_cons_succ]
            (refine wpAnyK_takeL Keep2.refl (i := 7) (v := ?_) rfl (by kernel_rfl) (by kernel_rfl) (by kernel_rfl) (fun _ _ _ h => h) (by rfl) ?_ ?_; rotate_left 1; focus (intro w; go_simp; try with_reducible rfl))
            try simp only [Act.put, List.setIfInBounds_toArray, List.set_cons_zero, List.set_cons_succ]
            (refine wpAnyK_loadL Keep2.refl (i := 8) (v := ?_) rfl (Keep2.right (i := 8) (by rfl)) (by kernel_rfl) (by kernel_rfl) (by kernel_rfl) (fun _ _ _ h => h) hG0 (by rfl) ?_ ?_; rotate_left 1; focus (intro w hFw; (try dsimp only at hFw); go_split_ands; go_simp; try with_reducible rfl))
            try simp only [Act.put, List.setIfInBounds_toArray, List.set_cons_zero, List.set_cons_succ]
            (refine wpAnyK_takeL Keep2.refl (i := 9) (v := ?_) rfl (by kernel_rfl) (by kernel_rfl) (by kernel_rfl) (fun _ _ _ h => h) (by rfl) ?_ ?_; rotate_left 1; focus (intro w; go_simp; try with_reducible rfl))
            try simp only [Act.put, List.setIfInBounds_toArray, List.set_cons_zero, List.set_cons_succ]
            (refine wpAnyK_loadL Keep2.refl (i := 10) (v := ?_) rfl (Keep2.left (i := 10) (by rfl)) (by kernel_rfl) (by kernel_rfl) (by kernel_rfl) (fun _ _ _ h => h) hF0 (by rfl) ?_ ?_; rotate_left 1; focus (intro w hFw; (try dsimp only at hFw); go_split_ands; go_simp; try with_reducible rfl))
            try simp only [Act.put, List.setIfInBounds_toArray, List.set_cons_zero, List.set_cons_succ]
            (refine wpAnyK_takeL Keep2.refl (i := 11) (v := ?_) rfl (by kernel_rfl) (by kernel_rfl) (by kernel_rfl) (fun _ _ _ h => h) (by rfl) ?_ ?_; rotate_left 1; focus (intro w; go_simp; try with_reducible rfl))
            try simp only [Act.put, List.setIfInBounds_toArray, List.set_cons_zero, List.set_cons_succ]
            (refine wpAnyK_loadL Keep2.refl (i := 12) (v := ?_) rfl (Keep2.right (i := 12) (by rfl)) (by kernel_rfl) (by kernel_rfl) (by kernel_rfl) (fun _ _ _ h => h) hG0 (by rfl) ?_ ?_; rotate_left 1; focus (intro w hFw; (try dsimp only at hFw); go_split_ands; go_simp; try with_reducible rfl))
            try simp only [Act.put, List.setIfInBounds_toArray, List.set_cons_zero, List.set_cons_succ]
            (refine wpAnyK_takeL Keep2.refl (i := 13) (v := ?_) rfl (by kernel_rfl) (by kernel_rfl) (by kernel_rfl) (fun _ _ _ h => h) (by rfl) ?_ ?_; rotate_left 1; focus (intro w; go_simp; (first | (rw [HW3.out]) | (with_reducible rfl))))
            try simp only [Act.put, List.setIfInBounds_toArray, List.set_cons_zero, List.set_cons_succ]
            (refine wpAnyK_takeL Keep2.refl (i := 14) (v := ?_) rfl (by kernel_rfl) (by kernel_rfl) (by kernel_rfl) (fun _ _ _ h => h) (by rfl) ?_ ?_; rotate_left 1; focus (intro w; go_simp; try with_reducible rfl))
            try simp only [Act.put, List.setIfInBounds_toArray, List.set_cons_zero, List.set_cons_succ]
            (refine wpAnyK_takeL Keep2.refl (i := 15) (v := ?_) rfl (by kernel_rfl) (by kernel_rfl) (by kernel_rfl) (fun _ _ _ h => h) (by rfl) ?_ ?_; rotate_left 1; focus (intro w; go_simp; try with_reducible rfl))
            try simp only [Act.put, List.setIfInBounds_toArray, List.set_cons_zero, List.set_cons_succ]
            (refine wpAnyK_loadL Keep2.refl (i := 16) (v := ?_) rfl (Keep2.right (i := 16) (by rfl)) (by kernel_rfl) (by kernel_rfl) (by kernel_rfl) (fun _ _ _ h => h) hG0 (by rfl) ?_ ?_; rotate_left 1; focus (intro w hFw; (try dsimp only at hFw); go_split_ands; go_simp; try with_reducible rfl))
            try simp only [Act.put, List.setIfInBounds_toArray, List.set_cons_zero, List.set_cons_succ]
            (refine wpAnyK_takeL Keep2.refl (i := 17) (v := ?_) rfl (by kernel_rfl) (by kernel_rfl) (by kernel_rfl) (fun _ _ _ h => h) (by rfl) ?_ ?_; rotate_left 1; focus (intro w; go_simp; try with_reducible rfl))
            try simp only [Act.put, List.setIfInBounds_toArray, List.set_cons_zero, List.set_cons_succ]
            (refine wpAnyK_loadL Keep2.refl (i := 18) (v := ?_) rfl (Keep2.left (i := 18) (by rfl)) (by kernel_rfl) (by kernel_rfl) (by kernel_rfl) (fun _ _ _ h => h) hF0 (by rfl) ?_ ?_; rotate_left 1; focus (intro w hFw; (try dsimp only at hFw); go_split_ands; go_simp; try with_reducible rfl))
            try simp only [Act.put, List.setIfInBounds_toArray, List.set_cons_zero, List.set_cons_succ]
            (refine wpAnyK_takeL Keep2.refl (i := 19) (v := ?_) rfl (by kernel_rfl) (by kernel_rfl) (by kernel_rfl) (fun _ _ _ h => h) (by rfl) ?_ ?_; rotate_left 1; focus (intro w; go_simp; try with_reducible rfl))
            try simp only [Act.put, List.setIfInBounds_toArray, List.set_cons_zero, List.set_cons_succ]
            (refine wpAnyK_loadL Keep2.refl (i := 20) (v := ?_) rfl (Keep2.right (i := 20) (by rfl)) (by kernel_rfl) (by kernel_rfl) (by kernel_rfl) (fun _ _ _ h => h) hG0 (by rfl) ?_ ?_; rotate_left 1; focus (intro w hFw; (try dsimp only at hFw); go_split_ands; go_simp; try with_reducible rfl))
            try simp only [Act.put, List.setIfInBounds_toArray, List.set_cons_zero, List.set_cons_succ]
            (refine wpAnyK_takeL Keep2.refl (i := 21) (v := ?_) rfl (by kernel_rfl) (by kernel_rfl) (by kernel_rfl) (fun _ _ _ h => h) (by rfl) ?_ ?_; rotate_left 1; focus (intro w; go_simp; (first | (rw [HW4.out]) | (with_reducible rfl))))
            try simp only [Act.put, List.setIfInBounds_toArray, List.set_cons_zero, List.set_cons_succ]
            (refine wpAnyK_takeL Keep2.refl (i := 22) (v := ?_) rfl (by kernel_rfl) (by kernel_rfl) (by kernel_rfl) (fun _ _ _ h => h) (by rfl) ?_ ?_; rotate_left 1; focus (intro w; go_simp; try with_reducible rfl))
            try simp only [Act.put, List.setIfInBounds_toArray, List.set_cons_zero, List.set_cons_succ]
            refine wpAnyK_step (i := 23) rfl (by kernel_rfl) (by rfl) (fun K hK => ?_)
            go_simp
            (have f1 := HFR.out.1; have e1 := HC.out.1; go_simp; clear f1 e1)
            (refine hK _ _ (Keep2.no1 (by kernel_rfl) (fun _ => HA.out)) ?_; clear hK K)
            (refine wpAnyK_with (F := fun W => W.cell? ⟨Bm, 0, none⟩ = some (.int .i64 (f : Int)) ∧ W.cell? ⟨Bm, 1, none⟩ = some (.int .i64 (tt : Int)) ∧ W.cell? ⟨Bm, 2, none⟩ = some (.int .i64 g)) (HA.out) (fun hG1 => ?_); clear hG0)
            try simp only [Act.put, List.setIfInBounds_toArray, List.set_cons_zero, List.set_cons_succ]
            (refine wpAnyK_takeL Keep2.refl (i := 24) (v := ?_) rfl (by kernel_rfl) (by kernel_rfl) (by kernel_rfl) (fun _ _ _ h => h) (by rfl) ?_ ?_; rotate_left 1; focus (intro w; go_simp; try with_reducible rfl))
            try simp only [Act.put, List.setIfInBounds_toArray, List.set_cons_zero, List.set_cons_succ]
            refine wpAnyK_step (i := 25) rfl (by kernel_rfl) (by rfl) (fun K hK => ?_)
            go_simp
            (have f1 := HFR.out.2; have e1 := HC.out.2; go_simp; clear f1 e1)
            (refine hK _ _ (Keep2.no (by kernel_rfl) (by kernel_rfl)) ?_; clear hK K)
            try simp only [Act.put, List.setIfInBounds_toArray, List.set_cons_zero, List.set_cons_succ]
            refine wpAnyK_done (by kernel_rfl) ?_ _
            obtain ⟨W9, hW9⟩ : ∃ W9, ((W8.setCell ⟨B, f, none⟩ (.int .i64 (hf - g))).setCell ⟨B, tt, none⟩ (.int .i64 (ht + g))).drew = W9 := ⟨_, rfl⟩
            have hz9 : wl.heap.size ≤ W9.heap.size := by rw [← hW9]; simp [World.setCell, World.drew]; exact hz8
            have hS9 : GoSt w W9 d B G H D nb cb nm cm Ab (some ⟨b2, om, none⟩) (hasAt (bsF bs) (ms.take (k + 1))) (ownAt (ownOf (bsF bs) l) (ms.take (k + 1)) (xs ++ [x])) (hadT bs (ms.take k) l xs) (.slice A5 (k + 1) c5) := by
              have h := HB.out
              rw [← hW9]
              refine GoSt.congr (show GoSt w ((W8.setCell ⟨B, f, none⟩ (.int .i64 (hf - g))).setCell ⟨B, tt, none⟩ (.int .i64 (ht + g))).drew d B G H D nb cb nm cm Ab (some ⟨b2, om, none⟩) _ _ _ (.slice A5 (k + 1) c5) from h) (fun b _ _ => ?_) (fun _ _ _ => rfl) (fun _ _ _ => rfl)
              rw [HSTEP.out.2.2.1]
              simp only [mvd]
              have e3 := HEQ.out.1
              have e4 := HEQ.out.2.1
              by_cases h1 : b = (tt : Int)
              · subst h1
                rw [if_pos rfl, if_neg (by omega), if_pos rfl]
                omega
              · rw [if_neg h1, if_neg h1]
                by_cases h2 : b = (f : Int)
                · subst h2; rw [if_pos rfl, if_pos rfl]; omega
                · rw [if_neg h2, if_neg h2]; omega
            have hM9 : Blk W9 Bm 70 #[.int .i64 (f : Int), .int .i64 (tt : Int), .int .i64 g] := by rw [← hW9]; exact HMB.out
            have hO9 : W9.ownsRow wl.heap.size 3 1 (.slice A5 (k + 1) c5) (k + 1) ((xs ++ [x]).flatMap encI) := by
              rw [← hW9]
              exact ownsRow_setCell (ownsRow_setCell HO8.out (p := ⟨B, f, none⟩) HN3.out.b.2 _) (p := ⟨B, tt, none⟩) HN3.out.b.2 _
            rw [hW9]
            clear hW9 HB HMB HO8 HC HF2 HA HFR hz8
            have HSET := Lib.hid (fun v : Bool => And.intro (hS9.setHad HN3.out htb v) (ownsRow_setCell hO9 (p := ⟨D, tt, none⟩) HN3.out.e.2 (.bool v)))
            have HHT := Lib.hid (fun b : Int => (show (if b = (tt : Int) then (hadT bs (ms.take k) l xs (tt : Int) || decide (0 < x)) else hadT bs (ms.take k) l xs b) = hadT bs (ms.take (k + 1)) l (xs ++ [x]) b from by
              unfold hadT
              rw [HSTEP.out.2.2.2 b x]
              show _ = (_ || (_ || (decide ((tt : Int) = b) && _)))
              by_cases h1 : b = (tt : Int)
              · subst h1; rw [if_pos rfl, show decide ((tt : Int) = (tt : Int)) = true from decide_eq_true rfl, Bool.true_and, Bool.or_assoc]
              · rw [if_neg h1, show decide ((tt : Int) = b) = false from decide_eq_false (fun e => h1 e.symm), Bool.false_and, Bool.or_false]))
            have HWY := Lib.hid (HSTEP.out.1 x (by omega) (by show g - _ ≤ x; rw [← HEQ.out.1, ← HEQ.out.2.2.1]; omega) (by show x ≤ g; omega) (by show x ≤ ownAt _ _ _ _; rw [← HEQ.out.2.2.1]; omega))
            have HF3 := Lib.hid (And.intro (hS9.drew.goes.cell 2) (And.intro (hM9.drew.cell 1) (hS9.drew.had.cell htb)))
            have HFD := Lib.hid (hS9.had.frozen tt)
            clear hS9 hM9 hO9 HW3 HW4 HSTEP HWAY
            generalize hv : hadT bs (ms.take k) l xs (tt : Int) = v at HF3 HHT
            clear hv
            go_upto_region 16 with fail
            cases v
            · skip
              refine wp_region_PL [1, 3, 5, 7, 9] (fun W => W.cell? ⟨G, 2, none⟩ = some (.slice (some ⟨D, 0, none⟩) nb nb) ∧ W.cell? ⟨Bm, 1, none⟩ = some (.int .i64 (tt : Int)) ∧ W.cell? ⟨D, tt, none⟩ = some (.bool false)) rfl (by kernel_rfl) (HF3.out) (fun hF0 => ?_)
              (refine wpAnyP_takeL (i := 0) (v := ?_) rfl (by kernel_rfl) (by kernel_rfl) (by kernel_rfl) (fun _ _ _ h => h) (by rfl) ?_ ?_; rotate_left 1; focus (intro w; go_simp; try with_reducible rfl))
              try simp only [Act.put, List.setIfInBounds_toArray, List.set_cons_zero, List.set_cons_succ]
              (refine wpAnyP_loadL (i := 1) (v := ?_) rfl (by kernel_rfl) (by kernel_rfl) (by kernel_rfl) (by rfl) (fun _ _ _ h => h) hF0 (by rfl) ?_ ?_; rotate_left 1; focus (intro w hFw; (try dsimp only at hFw); go_split_ands; go_simp; try with_reducible rfl))
              try simp only [Act.put, List.setIfInBounds_toArray, List.set_cons_zero, List.set_cons_succ]
              (refine wpAnyP_takeL (i := 2) (v := ?_) rfl (by kernel_rfl) (by kernel_rfl) (by kernel_rfl) (fun _ _ _ h => h) (by rfl) ?_ ?_; rotate_left 1; focus (intro w; go_simp; try with_reducible rfl))
              try simp only [Act.put, List.setIfInBounds_toArray, List.set_cons_zero, List.set_cons_succ]
              (refine wpAnyP_loadL (i := 3) (v := ?_) rfl (by kernel_rfl) (by kernel_rfl) (by kernel_rfl) (by rfl) (fun _ _ _ h => h) hF0 (by rfl) ?_ ?_; rotate_left 1; focus (intro w hFw; (try dsimp only at hFw); go_split_ands; go_simp; try with_reducible rfl))
              try simp only [Act.put, List.setIfInBounds_toArray, List.set_cons_zero, List.set_cons_succ]
              (refine wpAnyP_takeL (i := 4) (v := ?_) rfl (by kernel_rfl) (by kernel_rfl) (by kernel_rfl) (fun _ _ _ h => h) (by rfl) ?_ ?_; rotate_left 1; focus (intro w; go_simp; try with_reducible rfl))
              try simp only [Act.put, List.setIfInBounds_toArray, List.set_cons_zero, List.set_cons_succ]
              (refine wpAnyP_loadL (i := 5) (v := ?_) rfl (by kernel_rfl) (by kernel_rfl) (by kernel_rfl) (by rfl) (fun _ _ _ h => h) hF0 (by rfl) ?_ ?_; rotate_left 1; focus (intro w hFw; (try dsimp only at hFw); go_split_ands; go_simp; try with_reducible rfl))
              try simp only [Act.put, List.setIfInBounds_toArray, List.set_cons_zero, List.set_cons_succ]
              (refine wpAnyP_takeL (i := 6) (v := ?_) rfl (by kernel_rfl) (by kernel_rfl) (by kernel_rfl) (fun _ _ _ h => h) (by rfl) ?_ ?_; rotate_left 1; focus (intro w; go_simp; try with_reducible rfl))
              try simp only [Act.put, List.setIfInBounds_toArray, List.set_cons_zero, List.set_cons_succ]
              (refine wpAnyP_loadL (i := 7) (v := ?_) rfl (by kernel_rfl) (by kernel_rfl) (by kernel_rfl) (by rfl) (fun _ _ _ h => h) hF0 (by rfl) ?_ ?_; rotate_left 1; focus (intro w hFw; (try dsimp only at hFw); go_split_ands; go_simp; try with_reducible rfl))
              try simp only [Act.put, List.setIfInBounds_toArray, List.set_cons_zero, List.set_cons_succ]
              (refine wpAnyP_takeL (i := 8) (v := ?_) rfl (by kernel_rfl) (by kernel_rfl) (by kernel_rfl) (fun _ _ _ h => h) (by rfl) ?_ ?_; rotate_left 1; focus (intro w; go_simp; try with_reducible rfl))
              try simp only [Act.put, List.setIfInBounds_toArray, List.set_cons_zero, List.set_cons_succ]
              (refine wpAnyP_loadL (i := 9) (v := ?_) rfl (by kernel_rfl) (by kernel_rfl) (by kernel_rfl) (by rfl) (fun _ _ _ h => h) hF0 (by rfl) ?_ ?_; rotate_left 1; focus (intro w hFw; (try dsimp only at hFw); go_split_ands; go_simp; try with_reducible rfl))
              try simp only [Act.put, List.setIfInBounds_toArray, List.set_cons_zero, List.set_cons_succ]
              (refine wpAnyP_takeL (i := 10) (v := ?_) rfl (by kernel_rfl) (by kernel_rfl) (by kernel_rfl) (fun _ _ _ h => h) (by rfl) ?_ ?_; rotate_left 1; focus (intro w; go_simp; try with_reducible rfl))
              try simp only [Act.put, List.setIfInBounds_toArray, List.set_cons_zero, List.set_cons_succ]
              (refine wpAnyP_takeL (i := 11) (v := ?_) rfl (by kernel_rfl) (by kernel_rfl) (by kernel_rfl) (fun _ _ _ h => h) (by rfl) ?_ ?_; rotate_left 1; focus (intro w; go_simp; try with_reducible rfl))
              try simp only [Act.put, List.setIfInBounds_toArray, List.set_cons_zero, List.set_cons_succ]
              (refine wpAnyP_takeL (i := 12) (v := ?_) rfl (by kernel_rfl) (by kernel_rfl) (by kernel_rfl) (fun _ _ _ h => h) (by rfl) ?_ ?_; rotate_left 1; focus (intro w; go_simp; try with_reducible rfl))
              try simp only [Act.put, List.setIfInBounds_toArray, List.set_cons_zero, List.set_cons_succ]
              (refine wpAnyP_takeL (i := 13) (v := ?_) rfl (by kernel_rfl) (by kernel_rfl) (by kernel_rfl) (fun _ _ _ h => h) (by rfl) ?_ ?_; rotate_left 1; focus (intro w; go_simp; try with_reducible rfl))
              try simp only [Act.put, List.setIfInBounds_toArray, List.set_cons_zero, List.set_cons_succ]
              (refine wpAnyP_takeL (i := 14) (v := ?_) rfl (by kernel_rfl) (by kernel_rfl) (by kernel_rfl) (fun _ _ _ h => h) (by rfl) ?_ ?_; rotate_left 1; focus (intro w; go_simp; try with_reducible rfl))
              try simp only [Act.put, List.setIfInBounds_toArray, List.set_cons_zero, List.set_cons_succ]
              refine wpAnyP_last (i := 15) rfl (by kernel_rfl) (by kernel_rfl) (by rfl) (fun K hK => ?_)
              go_simp
              (have f1 := HFD.out; have e1 := HF3.out.2.2; go_simp; clear f1 e1)
              (refine hK _ _ ?_; clear hK K)
              try simp only [Act.put, List.setIfInBounds_toArray, List.set_cons_zero, List.set_cons_succ]
              refine wpAnyP_done (by kernel_rfl) ?_ _
              go_wp2_with fail
              obtain ⟨hs, hms⟩ := HSET.out (decide (0 < x))
              have hs3 : GoSt w (W9.setCell ⟨D, tt, none⟩ (.bool (decide (0 < x)))) d B G H D nb cb nm cm Ab (some ⟨b2, om, none⟩) _ _ (hadT bs (ms.take (k + 1)) l (xs ++ [x])) (.slice A5 (k + 1) c5) := hs.congr (fun _ _ _ => rfl) (fun _ _ _ => rfl) (fun b _ _ => by have h9 := HHT.out b; simp only [Bool.false_or] at h9; exact h9)
              exact ⟨⟨k + 1, c5, A5, xs ++ [x], by omega, by go_num, by simp [hxl], HWY.out, hs3.drew, hms, by have := hz9; simpa [World.setCell, World.drew] using this⟩, by simp [intOf]; omega⟩
            · skip
              refine wp_region_PL [1, 3, 5, 7, 9] (fun W => W.cell? ⟨G, 2, none⟩ = some (.slice (some ⟨D, 0, none⟩) nb nb) ∧ W.cell? ⟨Bm, 1, none⟩ = some (.int .i64 (tt : Int)) ∧ W.cell? ⟨D, tt, none⟩ = some (.bool true)) rfl (by kernel_rfl) (HF3.out) (fun hF0 => ?_)
              (refine wpAnyP_takeL (i := 0) (v := ?_) rfl (by kernel_rfl) (by kernel_rfl) (by kernel_rfl) (fun _ _ _ h => h) (by rfl) ?_ ?_; rotate_left 1; focus (intro w; go_simp; try with_reducible rfl))
              try simp only [Act.put, List.setIfInBounds_toArray, List.set_cons_zero, List.set_cons_succ]
              (refine wpAnyP_loadL (i := 1) (v := ?_) rfl (by kernel_rfl) (by kernel_rfl) (by kernel_rfl) (by rfl) (fun _ _ _ h => h) hF0 (by rfl) ?_ ?_; rotate_left 1; focus (intro w hFw; (try dsimp only at hFw); go_split_ands; go_simp; try with_reducible rfl))
              try simp only [Act.put, List.setIfInBounds_toArray, List.set_cons_zero, List.set_cons_succ]
              (refine wpAnyP_takeL (i := 2) (v := ?_) rfl (by kernel_rfl) (by kernel_rfl) (by kernel_rfl) (fun _ _ _ h => h) (by rfl) ?_ ?_; rotate_left 1; focus (intro w; go_simp; try with_reducible rfl))
              try simp only [Act.put, List.setIfInBounds_toArray, List.set_cons_zero, List.set_cons_succ]
              (refine wpAnyP_loadL (i := 3) (v := ?_) rfl (by kernel_rfl) (by kernel_rfl) (by kernel_rfl) (by rfl) (fun _ _ _ h => h) hF0 (by rfl) ?_ ?_; rotate_left 1; focus (intro w hFw; (try dsimp only at hFw); go_split_ands; go_simp; try with_reducible rfl))
              try simp only [Act.put, List.setIfInBounds_toArray, List.set_cons_zero, List.set_cons_succ]
              (refine wpAnyP_takeL (i := 4) (v := ?_) rfl (by kernel_rfl) (by kernel_rfl) (by kernel_rfl) (fun _ _ _ h => h) (by rfl) ?_ ?_; rotate_left 1; focus (intro w; go_simp; try with_reducible rfl))
              try simp only [Act.put, List.setIfInBounds_toArray, List.set_cons_zero, List.set_cons_succ]
              (refine wpAnyP_loadL (i := 5) (v := ?_) rfl (by kernel_rfl) (by kernel_rfl) (by kernel_rfl) (by rfl) (fun _ _ _ h => h) hF0 (by rfl) ?_ ?_; rotate_left 1; focus (intro w hFw; (try dsimp only at hFw); go_split_ands; go_simp; try with_reducible rfl))
              try simp only [Act.put, List.setIfInBounds_toArray, List.set_cons_zero, List.set_cons_succ]
              (refine wpAnyP_takeL (i := 6) (v := ?_) rfl (by kernel_rfl) (by kernel_rfl) (by kernel_rfl) (fun _ _ _ h => h) (by rfl) ?_ ?_; rotate_left 1; focus (intro w; go_simp; try with_reducible rfl))
              try simp only [Act.put, List.setIfInBounds_toArray, List.set_cons_zero, List.set_cons_succ]
              (refine wpAnyP_loadL (i := 7) (v := ?_) rfl (by kernel_rfl) (by kernel_rfl) (by kernel_rfl) (by rfl) (fun _ _ _ h => h) hF0 (by rfl) ?_ ?_; rotate_left 1; focus (intro w hFw; (try dsimp only at hFw); go_split_ands; go_simp; try with_reducible rfl))
              try simp only [Act.put, List.setIfInBounds_toArray, List.set_cons_zero, List.set_cons_succ]
              (refine wpAnyP_takeL (i := 8) (v := ?_) rfl (by kernel_rfl) (by kernel_rfl) (by kernel_rfl) (fun _ _ _ h => h) (by rfl) ?_ ?_; rotate_left 1; focus (intro w; go_simp; try with_reducible rfl))
              try simp only [Act.put, List.setIfInBounds_toArray, List.set_cons_zero, List.set_cons_succ]
              (refine wpAnyP_loadL (i := 9) (v := ?_) rfl (by kernel_rfl) (by kernel_rfl) (by kernel_rfl) (by rfl) (fun _ _ _ h => h) hF0 (by rfl) ?_ ?_; rotate_left 1; focus (intro w hFw; (try dsimp only at hFw); go_split_ands; go_simp; try with_reducible rfl))
              try simp only [Act.put, List.setIfInBounds_toArray, List.set_cons_zero, List.set_cons_succ]
              (refine wpAnyP_takeL (i := 10) (v := ?_) rfl (by kernel_rfl) (by kernel_rfl) (by kernel_rfl) (fun _ _ _ h => h) (by rfl) ?_ ?_; rotate_left 1; focus (intro w; go_simp; try with_reducible rfl))
              try simp only [Act.put, List.setIfInBounds_toArray, List.set_cons_zero, List.set_cons_succ]
              (refine wpAnyP_skipL (i := 11) rfl (by kernel_rfl) (by kernel_rfl) (by kernel_rfl) (fun _ _ _ h => h) (by rfl) ?_)
              try simp only [Act.put, List.setIfInBounds_toArray, List.set_cons_zero, List.set_cons_succ]
              (refine wpAnyP_skipL (i := 12) rfl (by kernel_rfl) (by kernel_rfl) (by kernel_rfl) (fun _ _ _ h => h) (by rfl) ?_)
              try simp only [Act.put, List.setIfInBounds_toArray, List.set_cons_zero, List.set_cons_succ]
              (refine wpAnyP_takeL (i := 13) (v := ?_) rfl (by kernel_rfl) (by kernel_rfl) (by kernel_rfl) (fun _ _ _ h => h) (by rfl) ?_ ?_; rotate_left 1; focus (intro w; go_simp; try with_reducible rfl))
              try simp only [Act.put, List.setIfInBounds_toArray, List.set_cons_zero, List.set_cons_succ]
              (refine wpAnyP_takeL (i := 14) (v := ?_) rfl (by kernel_rfl) (by kernel_rfl) (by kernel_rfl) (fun _ _ _ h => h) (by rfl) ?_ ?_; rotate_left 1; focus (intro w; go_simp; try with_reducible rfl))
              try simp only [Act.put, List.setIfInBounds_toArray, List.set_cons_zero, List.set_cons_succ]
              refine wpAnyP_last (i := 15) rfl (by kernel_rfl) (by kernel_rfl) (by rfl) (fun K hK => ?_)
              go_simp
              (have f1 := HFD.out; have e1 := HF3.out.2.2; go_simp; clear f1 e1)
              (refine hK _ _ ?_; clear hK K)
              try simp only [Act.put, List.setIfInBounds_toArray, List.set_cons_zero, List.set_cons_succ]
              refine wpAnyP_done (by kernel_rfl) ?_ _
              go_wp2_with fail
              obtain ⟨hs, hms⟩ := HSET.out (true)
              have hs3 : GoSt w (W9.setCell ⟨D, tt, none⟩ (.bool (true))) d B G H D nb cb nm cm Ab (some ⟨b2, om, none⟩) _ _ (hadT bs (ms.take (k + 1)) l (xs ++ [x])) (.slice A5 (k + 1) c5) := hs.congr (fun _ _ _ => rfl) (fun _ _ _ => rfl) (fun b _ _ => by have h9 := HHT.out b; simp only [Bool.true_or] at h9; exact h9)
              exact ⟨⟨k + 1, c5, A5, xs ++ [x], by omega, by go_num, by simp [hxl], HWY.out, hs3.drew, hms, by have := hz9; simpa [World.setCell, World.drew] using this⟩, by simp [intOf]; omega⟩
          · obtain rfl : k = nm := by omega
            have HS := Lib.hid hS
            have HRES := Lib.hid hS.res
            have HGO := Lib.hid hS.goes
            have n1 : wr.cell? ⟨w.heap.size, 1, none⟩ = some (.slice Am k cm) := hS.net.cell 1
            go_wp2_with (first
              | (refine wpList_load_row rfl 59 (.tmp 8) rfl G rfl 59 #[.slice AT k cT, .slice (some ⟨H, 0, none⟩) nb nb, .slice (some ⟨D, 0, none⟩) nb nb] (0, 0) _ HGO.out Try.underlying59 rfl info_goes ?_)
              | (refine wpList_store_row rfl 59 (.tmp 6) (.tmp 156) rfl (w.heap.size + 1) #[.slice AT k cT, .slice (some ⟨H, 0, none⟩) nb nb, .slice (some ⟨D, 0, none⟩) nb nb] rfl rfl 59 _ HRES.out info_goes rfl (by simp [Value.oneCell']) ?_))
            have hR := HRES.out.setRow #[.slice AT k cT, .slice (some ⟨H, 0, none⟩) nb nb, .slice (some ⟨D, 0, none⟩) nb nb]
            refine bodyPost_ret (v := .agg #[.slice AT k cT, .slice (some ⟨H, 0, none⟩) nb nb, .slice (some ⟨D, 0, none⟩) nb nb]) (results_cell_row rfl _ _ (w.heap.size + 1) 59 #[.slice AT k cT, .slice (some ⟨H, 0, none⟩) nb nb, .slice (some ⟨D, 0, none⟩) nb nb] (0, 0) _ rfl hR Try.underlying59 rfl info_goes) rfl ?_
            have hg := grown_setRow wr (w.heap.size + 1) #[.slice AT k cT, .slice (some ⟨H, 0, none⟩) nb nb, .slice (some ⟨D, 0, none⟩) nb nb]
            have hS1 := HS.out
            have hn := HN3.out
            have hlr := hown.lt
            have hTK : ms.take k = ms := by rw [HNM.out, List.take_length]
            rw [hTK] at hS1 hway
            obtain ⟨bT, hbT, hsT⟩ := Sl.of_own (enc := encI) encI_len hxl.symm hown
            have hn1 := hn.h
            have hn2 := hn.e
            have hn3 := hn.d
            have hlow := hS1.low
            have hzw := hlow.size
            refine ⟨xs, AT, H, D, cT, bT, hway, rfl, hsT.grown hg (fun h0 e => by have := hbT; injection e with e; omega), hS1.held.grown hg (fun e => by injection e with e; omega), hS1.had.grown hg (fun e => by injection e with e; omega), fun h0 => by have := hbT; omega, by omega, by omega, hS1.die.keep (hg.block d hS1.die.lt (fun e => by injection e with e; omega)), ?_⟩
            exact ⟨hg.os.trans hlow.os, hg.tape.trans hlow.tape, hg.output.trans hlow.output, Nat.le_trans hlow.size hg.size, fun i hi hn => (hg.block i (Nat.lt_of_lt_of_le hi hlow.size) (fun e => by injection e with e; omega)).trans (hlow.block i hi hn)⟩
end Go.Proofs.Ytmoolcpogilgkaa
