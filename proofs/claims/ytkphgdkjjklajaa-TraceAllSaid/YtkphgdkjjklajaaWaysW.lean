/-
  ways: all ways are gone through, and what they give is gathered.
-/
import Derived.Test.YtkphgdkjjklajaaWaysKit
import Derived.Deep.QuietTactic
import Derived.Deep.CutRange
import Derived.BigQuiet
set_option linter.unusedVariables false
set_option linter.unusedSimpArgs false
namespace Go.Proofs.Ytkphgdkjjklajaa
open Go.RowKit Go.Shelf Go.Sort

/-- what is gathered of some ways, and where -/
def gEnd (es : Nat → Span) (M : Nat) (own : Int → Int) (l : List Mv) (W : List (List Int)) : Nat → Span := fun i => gathT (es i) M (W.map fun xs => ownAt own l xs (i : Int))
def gTak (ts : Nat → Span) (M : Nat) (tk : List Int) (W : List (List Int)) : Nat → Span := fun i => gathT (ts i) M (W.map fun xs => (tk ++ xs).getD i 0)
/-- what a call of ways is given -/
structure WaysIn (w : World) (E T b1 b2 bh bo bt : Nat) (Ab Am Ah Ao At : Option Addr) (nb cb nm cm : Nat) (bs : List Int) (ms : List Mv) (k : Nat) (own : Int → Int) (tk : List Int) (es ts : Nat → Span) : Prop where
  net : NetM w b1 b2 Ab Am nb cb nm cm bs ms
  has : Sl encI 1 w bh Ah nb ((rg nb).map (hasAt (bsF bs) (ms.take k)))
  own : Sl encI 1 w bo Ao nb ((rg nb).map own)
  tak : Sl encI 1 w bt At k tk
  ends : SpF w E nb es
  taks : SpF w T nm ts
  et : E ≠ T
  n1 : b1 ≠ E ∧ b1 ≠ T
  n2 : 0 < nm → b2 ≠ E ∧ b2 ≠ T
  n3 : bh ≠ E ∧ bh ≠ T
  n4 : bo ≠ E ∧ bo ≠ T
  n5 : 0 < k → bt ≠ E ∧ bt ≠ T
/-- .. and what it answers -/
def WaysPost (w : World) (E T nb nm : Nat) (a own : Int → Int) (l : List Mv) (tk : List Int) (M : Nat) (es ts : Nat → Span) (e : Ending) (w' : World) : Prop :=
  e = .returned (.int .i64 ((M + (waysT a own l).length : Nat) : Int)) ∧ Bar E T w w' ∧ SpF w' E nb (gEnd es M own l (waysT a own l)) ∧ SpF w' T nm (gTak ts M tk (waysT a own l))
theorem WaysIn.bar {w w' : World} {E T b1 b2 bh bo bt : Nat} {Ab Am Ah Ao At : Option Addr} {nb cb nm cm : Nat} {bs : List Int} {ms : List Mv} {k : Nat} {own : Int → Int} {tk : List Int} {es ts es' ts' : Nat → Span}
    (h : WaysIn w E T b1 b2 bh bo bt Ab Am Ah Ao At nb cb nm cm bs ms k own tk es ts) (hb : Bar E T w w') (he : SpF w' E nb es') (ht : SpF w' T nm ts') : WaysIn w' E T b1 b2 bh bo bt Ab Am Ah Ao At nb cb nm cm bs ms k own tk es' ts' :=
  ⟨⟨h.net.b.bar hb (fun _ => h.n1), h.net.m.bar hb h.n2, h.net.cb, h.net.cm⟩, h.has.bar hb (fun _ => h.n3), h.own.bar hb (fun _ => h.n4), h.tak.bar hb h.n5, he, ht, h.et, h.n1, h.n2, h.n3, h.n4, h.n5⟩
theorem cell_someB {W : World} {g i : Nat} {v : Value} (h : W.cell? ⟨g, i, none⟩ = some v) : g < W.heap.size := by
  rcases Nat.lt_or_ge g W.heap.size with h1 | h1
  · exact h1
  · simp [World.cell?, Array.getElem?_eq_none h1] at h
theorem cell_oldB {W W' : World} {g i : Nat} {v : Value} (h : W.cell? ⟨g, i, none⟩ = some v) (hb : Below W.heap.size W W') : W'.cell? ⟨g, i, none⟩ = some v :=
  (hb.cell (p := ⟨g, i, none⟩) (cell_someB h)).trans h

theorem gEnd_snoc (es : Nat → Span) (M : Nat) (own : Int → Int) (m : Mv) (l : List Mv) (x : Int) (P W : List (List Int)) : gEnd (gEnd es M own (m :: l) P) (M + P.length) (mvx own m x) l W = gEnd es M own (m :: l) (P ++ W.map (x :: ·)) := by
  funext i
  unfold gEnd
  rw [List.map_append, gathT_append, List.length_map, List.map_map]
  rfl
theorem gTak_snoc (ts : Nat → Span) (M : Nat) (tk : List Int) (x : Int) (P W : List (List Int)) : gTak (gTak ts M tk P) (M + P.length) (tk ++ [x]) W = gTak ts M tk (P ++ W.map (x :: ·)) := by
  funext i
  unfold gTak
  rw [List.map_append, gathT_append, List.length_map, List.map_map]
  congr 1
  refine List.map_congr_left fun xs _ => ?_
  simp
theorem opts_le {α : Type} (f : Int → List α) {lo hi x : Int} (h1 : lo ≤ x) (h2 : x ≤ hi) : ((opts lo x).flatMap f).length ≤ ((opts lo hi).flatMap f).length := by
  obtain ⟨n, rfl⟩ : ∃ n : Nat, hi = x + n := ⟨(hi - x).toNat, by omega⟩
  clear h2
  induction n with
  | zero => simp
  | succ n ih =>
    rw [opts_snoc (lo := lo) (x := x + (n + 1 : Nat)) (by omega), List.flatMap_append, List.length_append, show x + ((n + 1 : Nat) : Int) - 1 = x + n by omega]
    omega
/-- the ways that begin with one of the first options -/
def pW (a own : Int → Int) (m : Mv) (l : List Mv) (x : Int) : List (List Int) := (opts (loM a own m) (x - 1)).flatMap fun x => (waysT (mvd a m) (mvx own m x) l).map (x :: ·)
theorem pW_first (a own : Int → Int) (m : Mv) (l : List Mv) : pW a own m l (loM a own m) = [] := by unfold pW; rw [opts_none (by omega)]; rfl
theorem pW_last (a own : Int → Int) (m : Mv) (l : List Mv) : pW a own m l (hiM own m + 1) = waysT a own (m :: l) := by
  unfold pW
  rw [show hiM own m + 1 - 1 = hiM own m by omega]
  rfl
theorem pW_snoc (a own : Int → Int) (m : Mv) (l : List Mv) {x : Int} (h : loM a own m ≤ x) : pW a own m l (x + 1) = pW a own m l x ++ (waysT (mvd a m) (mvx own m x) l).map (x :: ·) := by
  unfold pW
  rw [show x + 1 - 1 = x by omega, opts_snoc h, List.flatMap_append]
  simp
theorem pW_le (a own : Int → Int) (m : Mv) (l : List Mv) {x : Int} (h1 : loM a own m ≤ x) (h2 : x ≤ hiM own m) : (pW a own m l x).length + (waysT (mvd a m) (mvx own m x) l).length ≤ (waysT a own (m :: l)).length := by
  have h3 := opts_le (fun x => (waysT (mvd a m) (mvx own m x) l).map (x :: ·)) h1 h2
  have h4 := pW_snoc a own m l h1
  have h5 := congrArg List.length h4
  rw [List.length_append, List.length_map] at h5
  unfold pW at h5 h3 ⊢
  rw [show x + 1 - 1 = x by omega] at h5
  show _ ≤ ((opts (loM a own m) (hiM own m)).flatMap fun x => (waysT (mvd a m) (mvx own m x) l).map (x :: ·)).length
  omega

theorem newX {V W : World} (_ : Below V.heap.size V W) (x : Int) : Sl encI 1 (W.alloc (.cells #[.int .i64 x] 3)) W.heap.size (some ⟨W.heap.size, 0, none⟩) 1 [x] := Sl.newI W [x] 3
theorem mvx_bd {n : Nat} {a own : Int → Int} {m : Mv} {x : Int} (h : ∀ b : Int, 0 ≤ b → b < n → 0 ≤ own b ∧ own b ≤ a b) (hne : m.fr ≠ m.to) (f0 : 0 ≤ m.fr) (f1 : m.fr < n) (h0 : 0 ≤ x) (h1 : m.g - (a m.fr - own m.fr) ≤ x) (h2 : x ≤ m.g) (h3 : x ≤ own m.fr) :
    ∀ b : Int, 0 ≤ b → b < n → 0 ≤ mvx own m x b ∧ mvx own m x b ≤ mvd a m b := by
  intro b b0 b1
  have h5 := h b b0 b1
  simp only [mvx, mvd]
  by_cases hb : b = m.fr
  · subst hb; simp only [if_true, if_neg hne]; omega
  · simp only [if_neg hb]; split <;> omega
theorem cell_bar {E T : Nat} {W W' : World} {g i : Nat} {v : Value} (h : W.cell? ⟨g, i, none⟩ = some v) (hb : Bar E T W W') (h1 : g ≠ E ∧ g ≠ T) : W'.cell? ⟨g, i, none⟩ = some v :=
  (World.cell?_of_block (w := W) (a := ⟨g, i, none⟩) (hb.block g (cell_someB h) h1.1 h1.2)).trans h
set_option maxRecDepth 100000 in
set_option maxHeartbeats 4000000 in
theorem ways_any {bs : List Int} {ms : List Mv} (hN : NetIn bs ms) {nb nm : Nat} (hnb : nb = bs.length) (hnm : nm = ms.length) (E T b1 b2 : Nat) (Ab Am : Option Addr) (cb cm : Nat) : ∀ (r k : Nat), k + r = ms.length → ∀ (own : Int → Int), (∀ b : Int, 0 ≤ b → b < nb → 0 ≤ own b ∧ own b ≤ hasAt (bsF bs) (ms.take k) b) →
    ∀ (tk : List Int) (M : Nat) (es ts : Nat → Span) (bh bo bt : Nat) (Ah Ao At : Option Addr) (ch co ct : Nat) (w : World), M + (waysT (hasAt (bsF bs) (ms.take k)) own (ms.drop k)).length ≤ 1000000 →
    WaysIn w E T b1 b2 bh bo bt Ab Am Ah Ao At nb cb nm cm bs ms k own tk es ts →
    Calls Try.prog 34 #[netV Ab Am nb cb nm cm, .int .i64 (k : Int), .slice Ah nb ch, .slice Ao nb co, .slice At k ct, .slice (some ⟨E, 0, none⟩) nb nb, .slice (some ⟨T, 0, none⟩) nm nm, .int .i64 (M : Int)] w
      (WaysPost w E T nb nm (hasAt (bsF bs) (ms.take k)) own (ms.drop k) tk M es ts) := by
  obtain ⟨i0, hi, iz0, iz1, iz2⟩ := info_parts info_int
  have hnb8 : nb ≤ 8 := by have := hN.n1; omega
  have hnb0 : 0 < nb := by have := hN.n0; omega
  have hnm12 : nm ≤ 12 := by have := hN.m1; omega
  have HN := Lib.hid hN
  have HNB := Lib.hid hnb
  have HNM := Lib.hid hnm
  clear hN hnb hnm
  intro r
  induction r with
  | zero =>
    intro k hkr own hown tk M es ts bh bo bt Ah Ao At ch co ct w hM hI
    obtain rfl : k = nm := by have := HNM.out; omega
    have hd : ms.drop k = [] := by rw [HNM.out, List.drop_length]
    rw [hd] at hM ⊢
    simp only [waysT, List.length_singleton] at hM
    have hBn := Blk.new w 25 #[.slice Ab nb cb, .slice Am k cm]
    have hb0 : Below w.heap.size w (w.alloc (.cells #[.slice Ab nb cb, .slice Am k cm] 25)) := (Below.refl _ w).alloc (Nat.le_refl _) _
    have n1 : (w.alloc (.cells #[.slice Ab nb cb, .slice Am k cm] 25)).cell? ⟨w.heap.size, 1, none⟩ = some (.slice Am k cm) := hBn.cell 1
    have HI := Lib.hid hI
    have HB0 := Lib.hid ((Bar.refl E T w).below hb0)
    have HE0 := Lib.hid (hI.ends.old hb0)
    have HT0 := Lib.hid (hI.taks.old hb0)
    have HOW := Lib.hid hown
    clear hI hBn hown hb0
    go_enter Try.func34, Try.ntmps34
    go_wp2_with fail
    clear n1
    go_loopw [17] (fun i wr => ∃ j : Nat, j ≤ nb ∧ i = .int .i64 (j : Int) ∧ Bar E T w wr ∧ SpF wr E nb (fun a => if a < j then seenT (es a) M (own (a : Int)) else es a) ∧ SpF wr T k ts) (fun i _ => nb - (intOf i).toNat)
    case atStart => exact ⟨0, Nat.zero_le _, rfl, HB0.out, HE0.out.congr fun a _ => by simp, HT0.out⟩
    case round =>
      obtain ⟨j, hj, rfl, hB, hE, hT⟩ := hrel
      by_cases hlt : j < nb
      · obtain ⟨e0, e1⟩ := hE.cell hlt
        rw [if_neg (Nat.lt_irrefl j)] at e0 e1
        have hIr := HI.out.bar hB hE hT
        obtain ⟨oo, rfl, _, o0⟩ := hIr.own.atI (k := j) (by rw [has_len]; exact hlt)
        rw [has_get hlt] at o0
        have HF := Lib.hid (fun (W : World) (hb : Below wr.heap.size wr W) => (show (W.cell? ⟨E, j * 2, none⟩ = some (.int .i64 (es j).lo) ∧ W.cell? ⟨E, j * 2 + 1, none⟩ = some (.int .i64 (es j).hi)) ∧ W.cell? ⟨bo, oo + j, none⟩ = some (.int .i64 (own (j : Int))) from
          ⟨⟨cell_oldB e0 hb, cell_oldB e1 hb⟩, cell_oldB o0 hb⟩))
        have j0 : (0 : Int) ≤ (j : Int) := by omega
        have j1 : (j : Int) < (nb : Int) := by omega
        have HB := Lib.hid hB
        have HE := Lib.hid hE
        have HT := Lib.hid hT
        clear hB hE hT hIr e0 e1 o0
        have hbd := (Below.refl wr.heap.size wr).drew
        go_upto_region 5 with fail
        refine wp_region_PL [5, 10] (fun W => (W.cell? ⟨E, j * 2, none⟩ = some (.int .i64 (es j).lo) ∧ W.cell? ⟨E, j * 2 + 1, none⟩ = some (.int .i64 (es j).hi)) ∧ W.cell? ⟨bo, oo + j, none⟩ = some (.int .i64 (own (j : Int)))) rfl (by kernel_rfl) (HF.out _ hbd) (fun hF0 => ?_)
        (refine wpAnyP_takeL (i := 0) (v := ?_) rfl (by kernel_rfl) (by kernel_rfl) (by kernel_rfl) (fun _ _ _ h => h) (by rfl) ?_ ?_; rotate_left 1; focus (intro w; go_simp; try with_reducible rfl))
        try simp only [Act.put, List.setIfInBounds_toArray, List.set_cons_zero, List.set_cons_succ]
        (refine wpAnyP_takeL (i := 1) (v := ?_) rfl (by kernel_rfl) (by kernel_rfl) (by kernel_rfl) (fun _ _ _ h => h) (by rfl) ?_ ?_; rotate_left 1; focus (intro w; go_simp; try with_reducible rfl))
        try simp only [Act.put, List.setIfInBounds_toArray, List.set_cons_zero, List.set_cons_succ]
        (refine wpAnyP_takeL (i := 2) (v := ?_) rfl (by kernel_rfl) (by kernel_rfl) (by kernel_rfl) (fun _ _ _ h => h) (by rfl) ?_ ?_; rotate_left 1; focus (intro w; go_simp; try with_reducible rfl))
        try simp only [Act.put, List.setIfInBounds_toArray, List.set_cons_zero, List.set_cons_succ]
        (refine wpAnyP_takeL (i := 3) (v := ?_) rfl (by kernel_rfl) (by kernel_rfl) (by kernel_rfl) (fun _ _ _ h => h) (by rfl) ?_ ?_; rotate_left 1; focus (intro w; go_simp; try with_reducible rfl))
        try simp only [Act.put, List.setIfInBounds_toArray, List.set_cons_zero, List.set_cons_succ]
        (refine wpAnyP_takeL (i := 4) (v := ?_) rfl (by kernel_rfl) (by kernel_rfl) (by kernel_rfl) (fun _ _ _ h => h) (by rfl) ?_ ?_; rotate_left 1; focus (intro w; go_simp; try with_reducible rfl))
        try simp only [Act.put, List.setIfInBounds_toArray, List.set_cons_zero, List.set_cons_succ]
        (refine wpAnyP_loadL (i := 5) (v := ?_) rfl (by kernel_rfl) (by kernel_rfl) (by kernel_rfl) (by rfl) (fun _ _ _ h => h) hF0 (by rfl) ?_ ?_; rotate_left 1; focus (intro w hFw; (try dsimp only at hFw); go_split_ands; go_simp; try with_reducible rfl))
        try simp only [Act.put, List.setIfInBounds_toArray, List.set_cons_zero, List.set_cons_succ]
        (refine wpAnyP_takeL (i := 6) (v := ?_) rfl (by kernel_rfl) (by kernel_rfl) (by kernel_rfl) (fun _ _ _ h => h) (by rfl) ?_ ?_; rotate_left 1; focus (intro w; go_simp; try with_reducible rfl))
        try simp only [Act.put, List.setIfInBounds_toArray, List.set_cons_zero, List.set_cons_succ]
        (refine wpAnyP_takeL (i := 7) (v := ?_) rfl (by kernel_rfl) (by kernel_rfl) (by kernel_rfl) (fun _ _ _ h => h) (by rfl) ?_ ?_; rotate_left 1; focus (intro w; go_simp; try with_reducible rfl))
        try simp only [Act.put, List.setIfInBounds_toArray, List.set_cons_zero, List.set_cons_succ]
        (refine wpAnyP_takeL (i := 8) (v := ?_) rfl (by kernel_rfl) (by kernel_rfl) (by kernel_rfl) (fun _ _ _ h => h) (by rfl) ?_ ?_; rotate_left 1; focus (intro w; go_simp; try with_reducible rfl))
        try simp only [Act.put, List.setIfInBounds_toArray, List.set_cons_zero, List.set_cons_succ]
        (refine wpAnyP_takeL (i := 9) (v := ?_) rfl (by kernel_rfl) (by kernel_rfl) (by kernel_rfl) (fun _ _ _ h => h) (by rfl) ?_ ?_; rotate_left 1; focus (intro w; go_simp; try with_reducible rfl))
        try simp only [Act.put, List.setIfInBounds_toArray, List.set_cons_zero, List.set_cons_succ]
        (refine wpAnyP_loadL (i := 10) (v := ?_) rfl (by kernel_rfl) (by kernel_rfl) (by kernel_rfl) (by rfl) (fun _ _ _ h => h) hF0 (by rfl) ?_ ?_; rotate_left 1; focus (intro w hFw; (try dsimp only at hFw); go_split_ands; go_simp; try with_reducible rfl))
        try simp only [Act.put, List.setIfInBounds_toArray, List.set_cons_zero, List.set_cons_succ]
        refine wpAnyP_last (i := 11) rfl (by kernel_rfl) (by kernel_rfl) (by rfl) (fun K hK => ?_)
        go_simp
        (refine (seen_any (es j) M (own (j : Int)) _ (by omega)).mono ?_; rintro e w3 ⟨rfl, hb3⟩; have HB3 := Lib.hid (hbd.trans hb3))
        (refine hK _ _ ?_; clear hK K)
        try simp only [Act.put, List.setIfInBounds_toArray, List.set_cons_zero, List.set_cons_succ]
        (refine wpAnyP_takeL (i := 12) (v := ?_) rfl (by kernel_rfl) (by kernel_rfl) (by kernel_rfl) (fun _ _ _ h => h) (by rfl) ?_ ?_; rotate_left 1; focus (intro w; go_simp; try with_reducible rfl))
        try simp only [Act.put, List.setIfInBounds_toArray, List.set_cons_zero, List.set_cons_succ]
        refine wpAnyP_last (i := 13) rfl (by kernel_rfl) (by kernel_rfl) (by rfl) (fun K hK => ?_)
        go_simp
        (have f1 := (HE.out.old HB3.out).frozen (j * 2); have f2 := (HE.out.old HB3.out).frozen (j * 2 + 1); obtain ⟨⟨e0, e1⟩, _⟩ := HF.out _ HB3.out; go_simp; clear f1 f2 e0 e1)
        (refine hK _ _ ?_; clear hK K)
        try simp only [Act.put, List.setIfInBounds_toArray, List.set_cons_zero, List.set_cons_succ]
        refine wpAnyP_done (by kernel_rfl) ?_ _
        go_wp2_with fail
        refine ⟨⟨j + 1, by omega, by go_num, ((HB.out.below HB3.out).setCell ⟨E, j * 2, none⟩ (.inl rfl) _).setCell ⟨E, j * 2 + 1, none⟩ (.inl rfl) _, ((HE.out.old HB3.out).set_ hlt (seenT (es j) M (own (j : Int)))).congr fun a _ => ?_, ((HT.out.old HB3.out).far (p := ⟨E, j * 2, none⟩) HI.out.et.symm _).far (p := ⟨E, j * 2 + 1, none⟩) HI.out.et.symm _⟩, by simp [intOf]; omega⟩
        by_cases h1 : a = j
        · subst h1; rw [if_pos rfl, if_pos (by omega)]
        · rw [if_neg h1]
          by_cases h2 : a < j
          · rw [if_pos h2, if_pos (by omega)]
          · rw [if_neg h2, if_neg (by omega)]
      · obtain rfl : nb = j := by omega
        have HBx := Lib.hid hB
        have HEx := Lib.hid (hE.congr (f' := gEnd es M own [] [[]]) fun a ha => by rw [if_pos ha]; rfl)
        have HTx := Lib.hid hT
        clear hB hE hT
        obtain ⟨wq, rfl⟩ : ∃ wq : World, wq = wr := ⟨_, rfl⟩
        go_wp2_with fail
        go_loopw [18] (fun i wr => ∃ j : Nat, j ≤ k ∧ i = .int .i64 (j : Int) ∧ Bar E T w wr ∧ SpF wr E nb (gEnd es M own [] [[]]) ∧ SpF wr T k (fun a => if a < j then seenT (ts a) M (tk.getD a 0) else ts a)) (fun i _ => k - (intOf i).toNat)
        case atStart => exact ⟨0, Nat.zero_le _, rfl, HBx.out, HEx.out, HTx.out.congr fun a _ => by simp⟩
        case round =>
          obtain ⟨j, hj, rfl, hB, hE, hT⟩ := hrel
          by_cases hlt : j < k
          · obtain ⟨e0, e1⟩ := hT.cell hlt
            rw [if_neg (Nat.lt_irrefl j)] at e0 e1
            have hIr := HI.out.bar hB hE hT
            have hjt : j < tk.length := by have := hIr.tak.len; omega
            obtain ⟨oo, rfl, _, o0⟩ := hIr.tak.atI hjt
            rw [show tk[j] = tk.getD j 0 by rw [List.getD_eq_getElem?_getD, List.getElem?_eq_getElem hjt]; rfl] at o0
            have HF := Lib.hid (fun (W : World) (hb : Below wr.heap.size wr W) => (show (W.cell? ⟨T, j * 2, none⟩ = some (.int .i64 (ts j).lo) ∧ W.cell? ⟨T, j * 2 + 1, none⟩ = some (.int .i64 (ts j).hi)) ∧ W.cell? ⟨bt, oo + j, none⟩ = some (.int .i64 (tk.getD j 0)) from
              ⟨⟨cell_oldB e0 hb, cell_oldB e1 hb⟩, cell_oldB o0 hb⟩))
            have j0 : (0 : Int) ≤ (j : Int) := by omega
            have j1 : (j : Int) < (k : Int) := by omega
            have HB := Lib.hid hB
            have HE := Lib.hid hE
            have HT := Lib.hid hT
            clear hB hE hT hIr e0 e1 o0
            generalize hy : tk.getD j 0 = y at HF
            have HY := Lib.hid hy
            clear hy
            have hbd := (Below.refl wr.heap.size wr).drew
            go_upto_region 9 with fail
            refine wp_region_PL [5, 10] (fun W => (W.cell? ⟨T, j * 2, none⟩ = some (.int .i64 (ts j).lo) ∧ W.cell? ⟨T, j * 2 + 1, none⟩ = some (.int .i64 (ts j).hi)) ∧ W.cell? ⟨bt, oo + j, none⟩ = some (.int .i64 y)) rfl (by kernel_rfl) (HF.out _ hbd) (fun hF0 => ?_)
            (refine wpAnyP_takeL (i := 0) (v := ?_) rfl (by kernel_rfl) (by kernel_rfl) (by kernel_rfl) (fun _ _ _ h => h) (by rfl) ?_ ?_; rotate_left 1; focus (intro w; go_simp; try with_reducible rfl))
            try simp only [Act.put, List.setIfInBounds_toArray, List.set_cons_zero, List.set_cons_succ]
            (refine wpAnyP_takeL (i := 1) (v := ?_) rfl (by kernel_rfl) (by kernel_rfl) (by kernel_rfl) (fun _ _ _ h => h) (by rfl) ?_ ?_; rotate_left 1; focus (intro w; go_simp; try with_reducible rfl))
            try simp only [Act.put, List.setIfInBounds_toArray, List.set_cons_zero, List.set_cons_succ]
            (refine wpAnyP_takeL (i := 2) (v := ?_) rfl (by kernel_rfl) (by kernel_rfl) (by kernel_rfl) (fun _ _ _ h => h) (by rfl) ?_ ?_; rotate_left 1; focus (intro w; go_simp; try with_reducible rfl))
            try simp only [Act.put, List.setIfInBounds_toArray, List.set_cons_zero, List.set_cons_succ]
            (refine wpAnyP_takeL (i := 3) (v := ?_) rfl (by kernel_rfl) (by kernel_rfl) (by kernel_rfl) (fun _ _ _ h => h) (by rfl) ?_ ?_; rotate_left 1; focus (intro w; go_simp; try with_reducible rfl))
            try simp only [Act.put, List.setIfInBounds_toArray, List.set_cons_zero, List.set_cons_succ]
            (refine wpAnyP_takeL (i := 4) (v := ?_) rfl (by kernel_rfl) (by kernel_rfl) (by kernel_rfl) (fun _ _ _ h => h) (by rfl) ?_ ?_; rotate_left 1; focus (intro w; go_simp; try with_reducible rfl))
            try simp only [Act.put, List.setIfInBounds_toArray, List.set_cons_zero, List.set_cons_succ]
            (refine wpAnyP_loadL (i := 5) (v := ?_) rfl (by kernel_rfl) (by kernel_rfl) (by kernel_rfl) (by rfl) (fun _ _ _ h => h) hF0 (by rfl) ?_ ?_; rotate_left 1; focus (intro w hFw; (try dsimp only at hFw); go_split_ands; go_simp; try with_reducible rfl))
            try simp only [Act.put, List.setIfInBounds_toArray, List.set_cons_zero, List.set_cons_succ]
            (refine wpAnyP_takeL (i := 6) (v := ?_) rfl (by kernel_rfl) (by kernel_rfl) (by kernel_rfl) (fun _ _ _ h => h) (by rfl) ?_ ?_; rotate_left 1; focus (intro w; go_simp; try with_reducible rfl))
            try simp only [Act.put, List.setIfInBounds_toArray, List.set_cons_zero, List.set_cons_succ]
            (refine wpAnyP_takeL (i := 7) (v := ?_) rfl (by kernel_rfl) (by kernel_rfl) (by kernel_rfl) (fun _ _ _ h => h) (by rfl) ?_ ?_; rotate_left 1; focus (intro w; go_simp; try with_reducible rfl))
            try simp only [Act.put, List.setIfInBounds_toArray, List.set_cons_zero, List.set_cons_succ]
            (refine wpAnyP_takeL (i := 8) (v := ?_) rfl (by kernel_rfl) (by kernel_rfl) (by kernel_rfl) (fun _ _ _ h => h) (by rfl) ?_ ?_; rotate_left 1; focus (intro w; go_simp; try with_reducible rfl))
            try simp only [Act.put, List.setIfInBounds_toArray, List.set_cons_zero, List.set_cons_succ]
            (refine wpAnyP_takeL (i := 9) (v := ?_) rfl (by kernel_rfl) (by kernel_rfl) (by kernel_rfl) (fun _ _ _ h => h) (by rfl) ?_ ?_; rotate_left 1; focus (intro w; go_simp; try with_reducible rfl))
            try simp only [Act.put, List.setIfInBounds_toArray, List.set_cons_zero, List.set_cons_succ]
            (refine wpAnyP_loadL (i := 10) (v := ?_) rfl (by kernel_rfl) (by kernel_rfl) (by kernel_rfl) (by rfl) (fun _ _ _ h => h) hF0 (by rfl) ?_ ?_; rotate_left 1; focus (intro w hFw; (try dsimp only at hFw); go_split_ands; go_simp; try with_reducible rfl))
            try simp only [Act.put, List.setIfInBounds_toArray, List.set_cons_zero, List.set_cons_succ]
            refine wpAnyP_last (i := 11) rfl (by kernel_rfl) (by kernel_rfl) (by rfl) (fun K hK => ?_)
            go_simp
            (refine (seen_any (ts j) M y _ (by omega)).mono ?_; rintro e w3 ⟨rfl, hb3⟩; have HB3 := Lib.hid (hbd.trans hb3))
            (refine hK _ _ ?_; clear hK K)
            try simp only [Act.put, List.setIfInBounds_toArray, List.set_cons_zero, List.set_cons_succ]
            (refine wpAnyP_takeL (i := 12) (v := ?_) rfl (by kernel_rfl) (by kernel_rfl) (by kernel_rfl) (fun _ _ _ h => h) (by rfl) ?_ ?_; rotate_left 1; focus (intro w; go_simp; try with_reducible rfl))
            try simp only [Act.put, List.setIfInBounds_toArray, List.set_cons_zero, List.set_cons_succ]
            refine wpAnyP_last (i := 13) rfl (by kernel_rfl) (by kernel_rfl) (by rfl) (fun K hK => ?_)
            go_simp
            (have f1 := (HT.out.old HB3.out).frozen (j * 2); have f2 := (HT.out.old HB3.out).frozen (j * 2 + 1); obtain ⟨⟨e0, e1⟩, _⟩ := HF.out _ HB3.out; go_simp; clear f1 f2 e0 e1)
            (refine hK _ _ ?_; clear hK K)
            try simp only [Act.put, List.setIfInBounds_toArray, List.set_cons_zero, List.set_cons_succ]
            refine wpAnyP_done (by kernel_rfl) ?_ _
            go_wp2_with fail
            refine ⟨⟨j + 1, by omega, by go_num, ((HB.out.below HB3.out).setCell ⟨T, j * 2, none⟩ (.inr (.inl rfl)) _).setCell ⟨T, j * 2 + 1, none⟩ (.inr (.inl rfl)) _, ((HE.out.old HB3.out).far (p := ⟨T, j * 2, none⟩) HI.out.et _).far (p := ⟨T, j * 2 + 1, none⟩) HI.out.et _, ((HT.out.old HB3.out).set_ hlt (seenT (ts j) M y)).congr fun a _ => ?_⟩, by simp [intOf]; omega⟩
            by_cases h1 : a = j
            · subst h1; rw [if_pos rfl, if_pos (by omega), HY.out]
            · rw [if_neg h1]
              by_cases h2 : a < j
              · rw [if_pos h2, if_pos (by omega)]
              · rw [if_neg h2, if_neg (by omega)]
          · obtain rfl : k = j := by omega
            have HBz := Lib.hid hB
            have HEz := Lib.hid hE
            have HTz := Lib.hid (hT.congr (f' := gTak ts M tk [[]]) fun a ha => by rw [if_pos ha]; simp [gTak, gathT])
            clear hB hE hT
            go_wp2_with fail
            go_ret
            exact ⟨by simp [waysT], HBz.out, HEz.out, HTz.out⟩
  | succ r ih =>
    intro k hkr own hown tk M es ts bh bo bt Ah Ao At ch co ct w hM hI
    have hkm : k < ms.length := by omega
    have hkn : k < nm := by have := HNM.out; omega
    have hdr : ms.drop k = ms[k] :: ms.drop (k + 1) := (List.getElem_cons_drop hkm).symm
    have htk1 : hasAt (bsF bs) (ms.take (k + 1)) = mvd (hasAt (bsF bs) (ms.take k)) ms[k] := by
      rw [show ms.take (k + 1) = ms.take k ++ [ms[k]] by rw [List.take_add_one, List.getElem?_eq_getElem hkm]; rfl, hasAt_snoc]
    have hOK := HN.out.at_ hkm
    obtain ⟨om, rfl, hmz, s0, s1, s2⟩ := hI.net.m.atM hkm
    have hhb := HN.out.has_bd k
    have hhb1 := HN.out.has_bd (k + 1)
    rw [hdr] at hM ⊢
    have HIH := Lib.hid (ih (k + 1) (by omega))
    rw [htk1] at HIH hhb1
    have HTK := Lib.hid htk1
    obtain ⟨hf0, hf1, ht0, ht1, hne, hg0, hg1⟩ := hOK
    generalize hmm : ms[k] = mk at s0 s1 s2 hM HIH HTK hf0 hf1 ht0 ht1 hne hg0 hg1 hhb1
    clear hmm hdr htk1
    generalize ha : hasAt (bsF bs) (ms.take k) = a at *
    have HA := Lib.hid ha
    clear ha
    generalize ms.drop (k + 1) = l at *
    obtain ⟨fi, ti, g⟩ := mk
    simp only at s0 s1 s2 hf0 hf1 ht0 ht1 hne hg0 hg1
    obtain ⟨f, rfl⟩ := Int.eq_ofNat_of_zero_le hf0
    obtain ⟨tt, rfl⟩ := Int.eq_ofNat_of_zero_le ht0
    have hfb : f < nb := by have := HNB.out; omega
    have htb : tt < nb := by have := HNB.out; omega
    have hne2 : f ≠ tt := by omega
    obtain ⟨bf0, bf1⟩ := hhb f
    obtain ⟨bt0, bt1⟩ := hhb tt
    obtain ⟨of0, of1⟩ := hown f (by omega) (by omega)
    obtain ⟨ot0, ot1⟩ := hown tt (by omega) (by omega)
    have hkf : ((k : Int) == (nm : Int)) = false := by simp; omega
    have k0 : (0 : Int) ≤ (k : Int) := by omega
    have k1 : (k : Int) < (nm : Int) := by omega
    have hBn := (Blk.new w 25 #[.slice Ab nb cb, .slice (some ⟨b2, om, none⟩) nm cm])
    have hb0 : Below w.heap.size w (w.alloc (.cells #[.slice Ab nb cb, .slice (some ⟨b2, om, none⟩) nm cm] 25)) := (Below.refl _ w).alloc (Nat.le_refl _) _
    have n1 := hBn.cell 1
    have s0 := cell_oldB s0 hb0
    have s1 := cell_oldB s1 hb0
    have s2 := cell_oldB s2 hb0
    have hb1 : Below w.heap.size w ((w.alloc (.cells #[.slice Ab nb cb, .slice (some ⟨b2, om, none⟩) nm cm] 25)).alloc (.cells #[.int .i64 f, .int .i64 tt, .int .i64 g] 61)) := hb0.alloc (by simp) _
    have hBm := Blk.new (w.alloc (.cells #[.slice Ab nb cb, .slice (some ⟨b2, om, none⟩) nm cm] 25)) 61 #[.int .i64 f, .int .i64 tt, .int .i64 g]
    rw [World.size_alloc] at hBm
    have HBN := Lib.hid (hBn.alloc (.cells #[.int .i64 f, .int .i64 tt, .int .i64 g] 61))
    have HBM := Lib.hid hBm
    have HI := Lib.hid hI
    have HB1 := Lib.hid hb1
    have HOW := Lib.hid hown
    clear hI hBn hBm hown hb0 hb1 hhb hmz hf0 hf1 ht0 ht1
    go_enter Try.func34, Try.ntmps34
    go_upto_region 13 with (go_at_call 20; refine (copyInts_any bh nb ch Ah _ _ (HI.out.has.old HB1.out) (by omega)).mono ?_; rintro e w1 ⟨A1, c1, rfl, ho1, hb1⟩; have HO1 := Lib.hid ho1; have HB2 := Lib.hid hb1; clear ho1 hb1)
    have hz2 : w.heap.size + 1 + 1 ≤ w1.heap.size := by have := HB2.out.size; simp at this; exact this
    have HBW := Lib.hid (HB1.out.trans (HB2.out.mono (by simp; omega)))
    have HBN1 := Lib.hid (HBN.out.below HB2.out HBN.out.lt)
    have HBM1 := Lib.hid (HBM.out.below HB2.out HBM.out.lt)
    obtain ⟨N, rfl, hNB, hrN⟩ := RowC.of_own HO1.out (by rw [has_len]) hnb0
    simp only [World.size_alloc] at hNB
    have hNlt := hrN.lt
    clear HO1 HBN HBM n1
    obtain ⟨oh, rfl, _, h0⟩ := HI.out.has.atI (k := f) (by rw [has_len]; exact hfb)
    obtain ⟨oh2, e2, _, h1⟩ := HI.out.has.atI (k := tt) (by rw [has_len]; exact htb)
    obtain rfl : oh = oh2 := by injection e2 with e2; injection e2
    rw [has_get hfb, HA.out] at h0
    rw [has_get htb, HA.out] at h1
    rw [HA.out] at hrN
    obtain ⟨hf, ehf⟩ : ∃ x, x = a f := ⟨_, rfl⟩
    obtain ⟨ht, eht⟩ : ∃ x, x = a tt := ⟨_, rfl⟩
    rw [← ehf] at h0 hg1 bf0 bf1 of1
    rw [← eht] at h1 bt0 bt1 ot1
    have HFX := Lib.hid (fun (W : World) (hb : Below w.heap.size w W) (hm : Blk W (w.heap.size + 1) 61 #[.int .i64 (f : Int), .int .i64 (tt : Int), .int .i64 g]) => (show (W.cell? ⟨w.heap.size + 1, 0, none⟩ = some (.int .i64 (f : Int)) ∧ W.cell? ⟨w.heap.size + 1, 1, none⟩ = some (.int .i64 (tt : Int)) ∧ W.cell? ⟨w.heap.size + 1, 2, none⟩ = some (.int .i64 g)) ∧ W.cell? ⟨bh, oh + f, none⟩ = some (.int .i64 hf) ∧ W.cell? ⟨bh, oh + tt, none⟩ = some (.int .i64 ht) from
      ⟨⟨hm.cell 0, hm.cell 1, hm.cell 2⟩, cell_oldB h0 hb, cell_oldB h1 hb⟩))
    have HEQ := Lib.hid (And.intro ehf eht)
    have HFR := Lib.hid (And.intro (hrN.cell (k := f) (by rw [has_len]; exact hfb)) (hrN.cell (k := tt) (by rw [has_len]; exact htb)))
    have HFZ := Lib.hid (And.intro (hrN.frozen f) (hrN.frozen tt))
    have hB13 := (HBW.out.drew.setCell (p := ⟨N, f, none⟩) (by show w.heap.size ≤ N; omega) (.int .i64 (hf - g)))
    have hM13 := (HBM1.out.drew.far (p := ⟨N, f, none⟩) (by show w.heap.size + 1 ≠ N; omega) (.int .i64 (hf - g)))
    have HRN := Lib.hid (show RowC ((w1.setCell ⟨N, f, none⟩ (.int .i64 (hf - g))).setCell ⟨N, tt, none⟩ (.int .i64 (ht + g))).drew N ((rg nb).map (mvd a ⟨f, tt, g⟩)) from by
      have h := (hrN.set_ (k := f) (by rw [has_len]; exact hfb) (hf - g)).set_ (k := tt) (by rw [List.length_set, has_len]; exact htb) (ht + g)
      rw [ehf, eht, has_move hfb htb hne2] at h
      rw [← ehf, ← eht] at h
      exact h)
    have HB13 := Lib.hid (hB13.setCell (p := ⟨N, tt, none⟩) (by show w.heap.size ≤ N; omega) (.int .i64 (ht + g)))
    have HM13 := Lib.hid (hM13.far (p := ⟨N, tt, none⟩) (by show w.heap.size + 1 ≠ N; omega) (.int .i64 (ht + g)))
    have HN13 := Lib.hid ((HBN1.out.drew.far (p := ⟨N, f, none⟩) (by show w.heap.size ≠ N; omega) (.int .i64 (hf - g))).far (p := ⟨N, tt, none⟩) (by show w.heap.size ≠ N; omega) (.int .i64 (ht + g)))
    have HF1 := Lib.hid (HFX.out w1.drew HBW.out.drew HBM1.out.drew)
    have HF2 := Lib.hid (HFX.out _ hB13 hM13)
    have HW1 := Lib.hid (show IntKind.i64.wrap (hf - g) = hf - g from IntWalk.i64_in _ (by omega))
    have HW2 := Lib.hid (show IntKind.i64.wrap (ht + g) = ht + g from IntWalk.i64_in _ (by omega))
    have f0 : (0 : Int) ≤ (f : Int) := by omega
    have f1 : (f : Int) < (nb : Int) := by omega
    have t0 : (0 : Int) ≤ (tt : Int) := by omega
    have t1 : (tt : Int) < (nb : Int) := by omega
    clear hrN hB13 hM13 h0 h1 s0 s1 s2 ehf eht
    refine wp_region_PL [2, 5, 8, 10, 12, 16, 18, 20] (fun W => (W.cell? ⟨w.heap.size + 1, 0, none⟩ = some (.int .i64 (f : Int)) ∧ W.cell? ⟨w.heap.size + 1, 1, none⟩ = some (.int .i64 (tt : Int)) ∧ W.cell? ⟨w.heap.size + 1, 2, none⟩ = some (.int .i64 g)) ∧ W.cell? ⟨bh, oh + f, none⟩ = some (.int .i64 hf) ∧ W.cell? ⟨bh, oh + tt, none⟩ = some (.int .i64 ht)) rfl (by kernel_rfl) (HF1.out) (fun hF0 => ?_)
    (refine wpAnyP_takeL (i := 0) (v := ?_) rfl (by kernel_rfl) (by kernel_rfl) (by kernel_rfl) (fun _ _ _ h => h) (by rfl) ?_ ?_; rotate_left 1; focus (intro w; go_simp; try with_reducible rfl))
    try simp only [Act.put, List.setIfInBounds_toArray, List.set_cons_zero, List.set_cons_succ]
    (refine wpAnyP_takeL (i := 1) (v := ?_) rfl (by kernel_rfl) (by kernel_rfl) (by kernel_rfl) (fun _ _ _ h => h) (by rfl) ?_ ?_; rotate_left 1; focus (intro w; go_simp; try with_reducible rfl))
    try simp only [Act.put, List.setIfInBounds_toArray, List.set_cons_zero, List.set_cons_succ]
    (refine wpAnyP_loadL (i := 2) (v := ?_) rfl (by kernel_rfl) (by kernel_rfl) (by kernel_rfl) (by rfl) (fun _ _ _ h => h) hF0 (by rfl) ?_ ?_; rotate_left 1; focus (intro w hFw; (try dsimp only at hFw); go_split_ands; go_simp; try with_reducible rfl))
    try simp only [Act.put, List.setIfInBounds_toArray, List.set_cons_zero, List.set_cons_succ]
    (refine wpAnyP_takeL (i := 3) (v := ?_) rfl (by kernel_rfl) (by kernel_rfl) (by kernel_rfl) (fun _ _ _ h => h) (by rfl) ?_ ?_; rotate_left 1; focus (intro w; go_simp; try with_reducible rfl))
    try simp only [Act.put, List.setIfInBounds_toArray, List.set_cons_zero, List.set_cons_succ]
    (refine wpAnyP_takeL (i := 4) (v := ?_) rfl (by kernel_rfl) (by kernel_rfl) (by kernel_rfl) (fun _ _ _ h => h) (by rfl) ?_ ?_; rotate_left 1; focus (intro w; go_simp; try with_reducible rfl))
    try simp only [Act.put, List.setIfInBounds_toArray, List.set_cons_zero, List.set_cons_succ]
    (refine wpAnyP_loadL (i := 5) (v := ?_) rfl (by kernel_rfl) (by kernel_rfl) (by kernel_rfl) (by rfl) (fun _ _ _ h => h) hF0 (by rfl) ?_ ?_; rotate_left 1; focus (intro w hFw; (try dsimp only at hFw); go_split_ands; go_simp; try with_reducible rfl))
    try simp only [Act.put, List.setIfInBounds_toArray, List.set_cons_zero, List.set_cons_succ]
    (refine wpAnyP_takeL (i := 6) (v := ?_) rfl (by kernel_rfl) (by kernel_rfl) (by kernel_rfl) (fun _ _ _ h => h) (by rfl) ?_ ?_; rotate_left 1; focus (intro w; go_simp; try with_reducible rfl))
    try simp only [Act.put, List.setIfInBounds_toArray, List.set_cons_zero, List.set_cons_succ]
    (refine wpAnyP_takeL (i := 7) (v := ?_) rfl (by kernel_rfl) (by kernel_rfl) (by kernel_rfl) (fun _ _ _ h => h) (by rfl) ?_ ?_; rotate_left 1; focus (intro w; go_simp; try with_reducible rfl))
    try simp only [Act.put, List.setIfInBounds_toArray, List.set_cons_zero, List.set_cons_succ]
    (refine wpAnyP_loadL (i := 8) (v := ?_) rfl (by kernel_rfl) (by kernel_rfl) (by kernel_rfl) (by rfl) (fun _ _ _ h => h) hF0 (by rfl) ?_ ?_; rotate_left 1; focus (intro w hFw; (try dsimp only at hFw); go_split_ands; go_simp; try with_reducible rfl))
    try simp only [Act.put, List.setIfInBounds_toArray, List.set_cons_zero, List.set_cons_succ]
    (refine wpAnyP_takeL (i := 9) (v := ?_) rfl (by kernel_rfl) (by kernel_rfl) (by kernel_rfl) (fun _ _ _ h => h) (by rfl) ?_ ?_; rotate_left 1; focus (intro w; go_simp; try with_reducible rfl))
    try simp only [Act.put, List.setIfInBounds_toArray, List.set_cons_zero, List.set_cons_succ]
    (refine wpAnyP_loadL (i := 10) (v := ?_) rfl (by kernel_rfl) (by kernel_rfl) (by kernel_rfl) (by rfl) (fun _ _ _ h => h) hF0 (by rfl) ?_ ?_; rotate_left 1; focus (intro w hFw; (try dsimp only at hFw); go_split_ands; go_simp; try with_reducible rfl))
    try simp only [Act.put, List.setIfInBounds_toArray, List.set_cons_zero, List.set_cons_succ]
    (refine wpAnyP_takeL (i := 11) (v := ?_) rfl (by kernel_rfl) (by kernel_rfl) (by kernel_rfl) (fun _ _ _ h => h) (by rfl) ?_ ?_; rotate_left 1; focus (intro w; go_simp; try with_reducible rfl))
    try simp only [Act.put, List.setIfInBounds_toArray, List.set_cons_zero, List.set_cons_succ]
    (refine wpAnyP_loadL (i := 12) (v := ?_) rfl (by kernel_rfl) (by kernel_rfl) (by kernel_rfl) (by rfl) (fun _ _ _ h => h) hF0 (by rfl) ?_ ?_; rotate_left 1; focus (intro w hFw; (try dsimp only at hFw); go_split_ands; go_simp; try with_reducible rfl))
    try simp only [Act.put, List.setIfInBounds_toArray, List.set_cons_zero, List.set_cons_succ]
    (refine wpAnyP_takeL (i := 13) (v := ?_) rfl (by kernel_rfl) (by kernel_rfl) (by kernel_rfl) (fun _ _ _ h => h) (by rfl) ?_ ?_; rotate_left 1; focus (intro w; go_simp; (first | (rw [HW1.out]) | (with_reducible rfl))))
    try simp only [Act.put, List.setIfInBounds_toArray, List.set_cons_zero, List.set_cons_succ]
    (refine wpAnyP_takeL (i := 14) (v := ?_) rfl (by kernel_rfl) (by kernel_rfl) (by kernel_rfl) (fun _ _ _ h => h) (by rfl) ?_ ?_; rotate_left 1; focus (intro w; go_simp; try with_reducible rfl))
    try simp only [Act.put, List.setIfInBounds_toArray, List.set_cons_zero, List.set_cons_succ]
    (refine wpAnyP_takeL (i := 15) (v := ?_) rfl (by kernel_rfl) (by kernel_rfl) (by kernel_rfl) (fun _ _ _ h => h) (by rfl) ?_ ?_; rotate_left 1; focus (intro w; go_simp; try with_reducible rfl))
    try simp only [Act.put, List.setIfInBounds_toArray, List.set_cons_zero, List.set_cons_succ]
    (refine wpAnyP_loadL (i := 16) (v := ?_) rfl (by kernel_rfl) (by kernel_rfl) (by kernel_rfl) (by rfl) (fun _ _ _ h => h) hF0 (by rfl) ?_ ?_; rotate_left 1; focus (intro w hFw; (try dsimp only at hFw); go_split_ands; go_simp; try with_reducible rfl))
    try simp only [Act.put, List.setIfInBounds_toArray, List.set_cons_zero, List.set_cons_succ]
    (refine wpAnyP_takeL (i := 17) (v := ?_) rfl (by kernel_rfl) (by kernel_rfl) (by kernel_rfl) (fun _ _ _ h => h) (by rfl) ?_ ?_; rotate_left 1; focus (intro w; go_simp; try with_reducible rfl))
    try simp only [Act.put, List.setIfInBounds_toArray, List.set_cons_zero, List.set_cons_succ]
    (refine wpAnyP_loadL (i := 18) (v := ?_) rfl (by kernel_rfl) (by kernel_rfl) (by kernel_rfl) (by rfl) (fun _ _ _ h => h) hF0 (by rfl) ?_ ?_; rotate_left 1; focus (intro w hFw; (try dsimp only at hFw); go_split_ands; go_simp; try with_reducible rfl))
    try simp only [Act.put, List.setIfInBounds_toArray, List.set_cons_zero, List.set_cons_succ]
    (refine wpAnyP_takeL (i := 19) (v := ?_) rfl (by kernel_rfl) (by kernel_rfl) (by kernel_rfl) (fun _ _ _ h => h) (by rfl) ?_ ?_; rotate_left 1; focus (intro w; go_simp; try with_reducible rfl))
    try simp only [Act.put, List.setIfInBounds_toArray, List.set_cons_zero, List.set_cons_succ]
    (refine wpAnyP_loadL (i := 20) (v := ?_) rfl (by kernel_rfl) (by kernel_rfl) (by kernel_rfl) (by rfl) (fun _ _ _ h => h) hF0 (by rfl) ?_ ?_; rotate_left 1; focus (intro w hFw; (try dsimp only at hFw); go_split_ands; go_simp; try with_reducible rfl))
    try simp only [Act.put, List.setIfInBounds_toArray, List.set_cons_zero, List.set_cons_succ]
    (refine wpAnyP_takeL (i := 21) (v := ?_) rfl (by kernel_rfl) (by kernel_rfl) (by kernel_rfl) (fun _ _ _ h => h) (by rfl) ?_ ?_; rotate_left 1; focus (intro w; go_simp; (first | (rw [HW2.out]) | (with_reducible rfl))))
    try simp only [Act.put, List.setIfInBounds_toArray, List.set_cons_zero, List.set_cons_succ]
    (refine wpAnyP_takeL (i := 22) (v := ?_) rfl (by kernel_rfl) (by kernel_rfl) (by kernel_rfl) (fun _ _ _ h => h) (by rfl) ?_ ?_; rotate_left 1; focus (intro w; go_simp; try with_reducible rfl))
    try simp only [Act.put, List.setIfInBounds_toArray, List.set_cons_zero, List.set_cons_succ]
    refine wpAnyP_step (i := 23) rfl (by kernel_rfl) (by rfl) (fun K hK => ?_)
    go_simp
    (have q1 := HFZ.out.1; have q2 := HFR.out.1; go_simp; clear q1 q2)
    (refine hK _ _ (HF2.out) (fun hF1 => ?_); clear hK K hF0)
    try simp only [Act.put, List.setIfInBounds_toArray, List.set_cons_zero, List.set_cons_succ]
    (refine wpAnyP_takeL (i := 24) (v := ?_) rfl (by kernel_rfl) (by kernel_rfl) (by kernel_rfl) (fun _ _ _ h => h) (by rfl) ?_ ?_; rotate_left 1; focus (intro w; go_simp; try with_reducible rfl))
    try simp only [Act.put, List.setIfInBounds_toArray, List.set_cons_zero, List.set_cons_succ]
    refine wpAnyP_last (i := 25) rfl (by kernel_rfl) (by kernel_rfl) (by rfl) (fun K hK => ?_)
    go_simp
    (have q1 := HFZ.out.2; have q2 := HFR.out.2; go_simp; clear q1 q2)
    (refine hK _ _ ?_; clear hK K)
    try simp only [Act.put, List.setIfInBounds_toArray, List.set_cons_zero, List.set_cons_succ]
    refine wpAnyP_done (by kernel_rfl) ?_ _
    obtain ⟨V, hV⟩ : ∃ V, ((w1.setCell ⟨N, f, none⟩ (.int .i64 (hf - g))).setCell ⟨N, tt, none⟩ (.int .i64 (ht + g))).drew = V := ⟨_, rfl⟩
    have hRV : RowC V N ((rg nb).map (mvd a ⟨f, tt, g⟩)) := hV ▸ HRN.out
    have hBV : Below w.heap.size w V := hV ▸ HB13.out
    have hMV : Blk V (w.heap.size + 1) 61 #[.int .i64 (f : Int), .int .i64 (tt : Int), .int .i64 g] := hV ▸ HM13.out
    have hNV : Blk V w.heap.size 25 #[.slice Ab nb cb, .slice (some ⟨b2, om, none⟩) nm cm] := hV ▸ HN13.out
    rw [hV]
    clear hV HRN HB13 HM13 HN13 HF1 HF2 HW1 HW2 HFR HFZ HBW HBN1 HBM1 HB1 HB2 HFX
    obtain ⟨oo, rfl, _, h0⟩ := HI.out.own.atI (k := f) (by rw [has_len]; exact hfb)
    obtain ⟨oo2, e2, _, h1⟩ := HI.out.own.atI (k := tt) (by rw [has_len]; exact htb)
    obtain rfl : oo = oo2 := by injection e2 with e2; injection e2
    rw [has_get hfb] at h0
    rw [has_get htb] at h1
    obtain ⟨oh2, e3, _, h2⟩ := HI.out.has.atI (k := f) (by rw [has_len]; exact hfb)
    obtain rfl : oh = oh2 := by injection e3 with e3; injection e3
    rw [has_get hfb, HA.out, ← HEQ.out.1] at h2
    obtain ⟨of, eof⟩ : ∃ x, x = own f := ⟨_, rfl⟩
    obtain ⟨ot, eot⟩ : ∃ x, x = own tt := ⟨_, rfl⟩
    rw [← eof] at h0 of0 of1
    rw [← eot] at h1 ot0 ot1
    have HF14 := Lib.hid (fun (W : World) (hb : Below V.heap.size V W) => (show (W.cell? ⟨w.heap.size + 1, 0, none⟩ = some (.int .i64 (f : Int)) ∧ W.cell? ⟨w.heap.size + 1, 1, none⟩ = some (.int .i64 (tt : Int)) ∧ W.cell? ⟨w.heap.size + 1, 2, none⟩ = some (.int .i64 g)) ∧ W.cell? ⟨bh, oh + f, none⟩ = some (.int .i64 hf) ∧ W.cell? ⟨bo, oo + f, none⟩ = some (.int .i64 of) from
      have hw : Below w.heap.size w W := hBV.trans (hb.mono hBV.size)
      have hm := hMV.below hb hMV.lt
      ⟨⟨hm.cell 0, hm.cell 1, hm.cell 2⟩, cell_oldB h2 hw, cell_oldB h0 hw⟩))
    have HO := Lib.hid (And.intro eof eot)
    have HOC := Lib.hid (And.intro h0 h1)
    have HRV := Lib.hid hRV
    have HBV := Lib.hid hBV
    have HMV := Lib.hid hMV
    have HNV := Lib.hid hNV
    have HLO := Lib.hid (show max 0 (g - (hf - of)) = loM a own ⟨f, tt, g⟩ from by unfold loM; rw [HEQ.out.1, eof])
    have HHI := Lib.hid (show min g of = hiM own ⟨f, tt, g⟩ from by unfold hiM; rw [eof])
    clear hRV hBV hMV hNV h0 h1 h2 eof eot
    go_upto_region 14 with fail
    go_cut [21] from 100 to 111 (fun p wx => ∃ B : Nat, p = .pointer (some ⟨B, 0, none⟩) ∧ Alc V wx B (max 0 (g - (hf - of))) (min g of) ∧ Below V.heap.size V wx)
    case first =>
      have hV : Below V.heap.size V V.drew := (Below.refl _ V).drew
      refine wp_region_K2 [0, 3, 5, 8, 10] [] (fun W => (W.cell? ⟨w.heap.size + 1, 0, none⟩ = some (.int .i64 (f : Int)) ∧ W.cell? ⟨w.heap.size + 1, 1, none⟩ = some (.int .i64 (tt : Int)) ∧ W.cell? ⟨w.heap.size + 1, 2, none⟩ = some (.int .i64 g)) ∧ W.cell? ⟨bh, oh + f, none⟩ = some (.int .i64 hf) ∧ W.cell? ⟨bo, oo + f, none⟩ = some (.int .i64 of)) (fun _ => True) rfl (by kernel_rfl) (HF14.out _ hV) (trivial) (fun hF0 hG0 => ?_)
      (refine wpAnyK_loadL Keep2.refl (i := 0) (v := ?_) rfl (Keep2.left (i := 0) (by rfl)) (by kernel_rfl) (by kernel_rfl) (by kernel_rfl) (fun _ _ _ h => h) hF0 (by rfl) ?_ ?_; rotate_left 1; focus (intro w hFw; (try dsimp only at hFw); go_split_ands; go_simp; try with_reducible rfl))
      try simp only [Act.put, List.setIfInBounds_toArray, List.set_cons_zero, List.set_cons_succ]
      (refine wpAnyK_takeL Keep2.refl (i := 1) (v := ?_) rfl (by kernel_rfl) (by kernel_rfl) (by kernel_rfl) (fun _ _ _ h => h) (by rfl) ?_ ?_; rotate_left 1; focus (intro w; go_simp; try with_reducible rfl))
      try simp only [Act.put, List.setIfInBounds_toArray, List.set_cons_zero, List.set_cons_succ]
      (refine wpAnyK_takeL Keep2.refl (i := 2) (v := ?_) rfl (by kernel_rfl) (by kernel_rfl) (by kernel_rfl) (fun _ _ _ h => h) (by rfl) ?_ ?_; rotate_left 1; focus (intro w; go_simp; try with_reducible rfl))
      try simp only [Act.put, List.setIfInBounds_toArray, List.set_cons_zero, List.set_cons_succ]
      (refine wpAnyK_loadL Keep2.refl (i := 3) (v := ?_) rfl (Keep2.left (i := 3) (by rfl)) (by kernel_rfl) (by kernel_rfl) (by kernel_rfl) (fun _ _ _ h => h) hF0 (by rfl) ?_ ?_; rotate_left 1; focus (intro w hFw; (try dsimp only at hFw); go_split_ands; go_simp; try with_reducible rfl))
      try simp only [Act.put, List.setIfInBounds_toArray, List.set_cons_zero, List.set_cons_succ]
      (refine wpAnyK_takeL Keep2.refl (i := 4) (v := ?_) rfl (by kernel_rfl) (by kernel_rfl) (by kernel_rfl) (fun _ _ _ h => h) (by rfl) ?_ ?_; rotate_left 1; focus (intro w; go_simp; try with_reducible rfl))
      try simp only [Act.put, List.setIfInBounds_toArray, List.set_cons_zero, List.set_cons_succ]
      (refine wpAnyK_loadL Keep2.refl (i := 5) (v := ?_) rfl (Keep2.left (i := 5) (by rfl)) (by kernel_rfl) (by kernel_rfl) (by kernel_rfl) (fun _ _ _ h => h) hF0 (by rfl) ?_ ?_; rotate_left 1; focus (intro w hFw; (try dsimp only at hFw); go_split_ands; go_simp; try with_reducible rfl))
      try simp only [Act.put, List.setIfInBounds_toArray, List.set_cons_zero, List.set_cons_succ]
      (refine wpAnyK_takeL Keep2.refl (i := 6) (v := ?_) rfl (by kernel_rfl) (by kernel_rfl) (by kernel_rfl) (fun _ _ _ h => h) (by rfl) ?_ ?_; rotate_left 1; focus (intro w; go_simp; try with_reducible rfl))
      try simp only [Act.put, List.setIfInBounds_toArray, List.set_cons_zero, List.set_cons_succ]
      (refine wpAnyK_takeL Keep2.refl (i := 7) (v := ?_) rfl (by kernel_rfl) (by kernel_rfl) (by kernel_rfl) (fun _ _ _ h => h) (by rfl) ?_ ?_; rotate_left 1; focus (intro w; go_simp; try with_reducible rfl))
      try simp only [Act.put, List.setIfInBounds_toArray, List.set_cons_zero, List.set_cons_succ]
      (refine wpAnyK_loadL Keep2.refl (i := 8) (v := ?_) rfl (Keep2.left (i := 8) (by rfl)) (by kernel_rfl) (by kernel_rfl) (by kernel_rfl) (fun _ _ _ h => h) hF0 (by rfl) ?_ ?_; rotate_left 1; focus (intro w hFw; (try dsimp only at hFw); go_split_ands; go_simp; try with_reducible rfl))
      try simp only [Act.put, List.setIfInBounds_toArray, List.set_cons_zero, List.set_cons_succ]
      (refine wpAnyK_takeL Keep2.refl (i := 9) (v := ?_) rfl (by kernel_rfl) (by kernel_rfl) (by kernel_rfl) (fun _ _ _ h => h) (by rfl) ?_ ?_; rotate_left 1; focus (intro w; go_simp; try with_reducible rfl))
      try simp only [Act.put, List.setIfInBounds_toArray, List.set_cons_zero, List.set_cons_succ]
      (refine wpAnyK_loadL Keep2.refl (i := 10) (v := ?_) rfl (Keep2.left (i := 10) (by rfl)) (by kernel_rfl) (by kernel_rfl) (by kernel_rfl) (fun _ _ _ h => h) hF0 (by rfl) ?_ ?_; rotate_left 1; focus (intro w hFw; (try dsimp only at hFw); go_split_ands; go_simp; try with_reducible rfl))
      try simp only [Act.put, List.setIfInBounds_toArray, List.set_cons_zero, List.set_cons_succ]
      refine wpAnyK_all (rs := [11, 12]) (by kernel_rfl) (by simp) ?_
      refine List.forall_mem_cons.2 ⟨?_, List.forall_mem_cons.2 ⟨?_, fun _ h => absurd h List.not_mem_nil⟩⟩
      · refine wpOp_of rfl (by rfl) (fun K hK => ?_)
        go_simp
        (refine (bounds_any ⟨f, tt, g⟩ hf of _ (by omega) (by omega) (by omega) (by show 0 ≤ g; omega) (by show g ≤ 8000000; omega)).mono ?_; rintro e w8 ⟨rfl, hB8⟩; (try replace hA := hA.step hB8); replace hV := hV.trans (hB8.mono hV.size))
        (refine hK _ _ ⟨⟨fun _ _ => HF14.out _ hV, fun h => absurd h (by decide)⟩, ?_⟩; clear hK K)
        (refine wpAnyK_with (F := fun W => (W.cell? ⟨w.heap.size + 1, 0, none⟩ = some (.int .i64 (f : Int)) ∧ W.cell? ⟨w.heap.size + 1, 1, none⟩ = some (.int .i64 (tt : Int)) ∧ W.cell? ⟨w.heap.size + 1, 2, none⟩ = some (.int .i64 g)) ∧ W.cell? ⟨bh, oh + f, none⟩ = some (.int .i64 hf) ∧ W.cell? ⟨bo, oo + f, none⟩ = some (.int .i64 of)) (HF14.out _ hV) (fun hF1 => ?_); clear hF0)
        try simp only [Act.put, List.setIfInBounds_toArray, List.set_cons_zero, List.set_cons_succ]
        refine wpAnyK_step (i := 12) rfl (by kernel_rfl) (by rfl) (fun K hK => ?_)
        go_simp
        (have hA := Alc.new hV; (try simp only [World.size_drew] at hA); have hV0 := hV; replace hV := hV.alloc hV.size (.cells #[.int .i64 0, .int .i64 0] 48))
        (refine hK _ _ (⟨fun _ _ => HF14.out _ hV, fun h => absurd h (by decide)⟩) ?_; clear hK K)
        (refine wpAnyK_with (F := fun W => (W.cell? ⟨w.heap.size + 1, 0, none⟩ = some (.int .i64 (f : Int)) ∧ W.cell? ⟨w.heap.size + 1, 1, none⟩ = some (.int .i64 (tt : Int)) ∧ W.cell? ⟨w.heap.size + 1, 2, none⟩ = some (.int .i64 g)) ∧ W.cell? ⟨bh, oh + f, none⟩ = some (.int .i64 hf) ∧ W.cell? ⟨bo, oo + f, none⟩ = some (.int .i64 of)) (HF14.out _ hV) (fun hF2 => ?_); clear hF1)
        try simp only [Act.put, List.setIfInBounds_toArray, List.set_cons_zero, List.set_cons_succ]
        refine wpAnyK_step (i := 13) rfl (by kernel_rfl) (by rfl) (fun K hK => ?_)
        go_simp
        (have q0 := hA.1.frozen 0; have q1 := hA.1.frozen 1; have c0 := hA.1.cell 0; have c1 := hA.1.cell 1; go_simp)
        (refine hK _ _ (Keep2.no (by kernel_rfl) (by kernel_rfl)) ?_; clear hK K)
        try simp only [Act.put, List.setIfInBounds_toArray, List.set_cons_zero, List.set_cons_succ]
        refine wpAnyK_done (by kernel_rfl) ?_ _
        go_wp2_with fail
        go_meet
        first | exact ⟨_, rfl, (Alc.last hV0 _ _).1, (Alc.last hV0 _ _).2⟩ | exact ⟨_, rfl, (hA.store hV _ _).1, (hA.store hV _ _).2⟩
      · refine wpOp_of rfl (by rfl) (fun K hK => ?_)
        go_simp
        (have hA := Alc.new hV; (try simp only [World.size_drew] at hA); have hV0 := hV; replace hV := hV.alloc hV.size (.cells #[.int .i64 0, .int .i64 0] 48))
        (refine hK _ _ ⟨⟨fun _ _ => HF14.out _ hV, fun h => absurd h (by decide)⟩, ?_⟩; clear hK K)
        (refine wpAnyK_with (F := fun W => (W.cell? ⟨w.heap.size + 1, 0, none⟩ = some (.int .i64 (f : Int)) ∧ W.cell? ⟨w.heap.size + 1, 1, none⟩ = some (.int .i64 (tt : Int)) ∧ W.cell? ⟨w.heap.size + 1, 2, none⟩ = some (.int .i64 g)) ∧ W.cell? ⟨bh, oh + f, none⟩ = some (.int .i64 hf) ∧ W.cell? ⟨bo, oo + f, none⟩ = some (.int .i64 of)) (HF14.out _ hV) (fun hF4 => ?_); clear hF0)
        try simp only [Act.put, List.setIfInBounds_toArray, List.set_cons_zero, List.set_cons_succ]
        refine wpAnyK_step (i := 11) rfl (by kernel_rfl) (by rfl) (fun K hK => ?_)
        go_simp
        (refine (bounds_any ⟨f, tt, g⟩ hf of _ (by omega) (by omega) (by omega) (by show 0 ≤ g; omega) (by show g ≤ 8000000; omega)).mono ?_; rintro e w8 ⟨rfl, hB8⟩; (try replace hA := hA.step hB8); replace hV := hV.trans (hB8.mono hV.size))
        (refine hK _ _ (⟨fun _ _ => HF14.out _ hV, fun h => absurd h (by decide)⟩) ?_; clear hK K)
        (refine wpAnyK_with (F := fun W => (W.cell? ⟨w.heap.size + 1, 0, none⟩ = some (.int .i64 (f : Int)) ∧ W.cell? ⟨w.heap.size + 1, 1, none⟩ = some (.int .i64 (tt : Int)) ∧ W.cell? ⟨w.heap.size + 1, 2, none⟩ = some (.int .i64 g)) ∧ W.cell? ⟨bh, oh + f, none⟩ = some (.int .i64 hf) ∧ W.cell? ⟨bo, oo + f, none⟩ = some (.int .i64 of)) (HF14.out _ hV) (fun hF5 => ?_); clear hF4)
        try simp only [Act.put, List.setIfInBounds_toArray, List.set_cons_zero, List.set_cons_succ]
        refine wpAnyK_step (i := 13) rfl (by kernel_rfl) (by rfl) (fun K hK => ?_)
        go_simp
        (have q0 := hA.1.frozen 0; have q1 := hA.1.frozen 1; have c0 := hA.1.cell 0; have c1 := hA.1.cell 1; go_simp)
        (refine hK _ _ (Keep2.no (by kernel_rfl) (by kernel_rfl)) ?_; clear hK K)
        try simp only [Act.put, List.setIfInBounds_toArray, List.set_cons_zero, List.set_cons_succ]
        refine wpAnyK_done (by kernel_rfl) ?_ _
        go_wp2_with fail
        go_meet
        first | exact ⟨_, rfl, (Alc.last hV0 _ _).1, (Alc.last hV0 _ _).2⟩ | exact ⟨_, rfl, (hA.store hV _ _).1, (hA.store hV _ _).2⟩
    case rest =>
      obtain ⟨Bb, rfl, hA1, hV1⟩ := hcut
      rw [HLO.out, HHI.out] at hA1
      have hlh : loM a own ⟨f, tt, g⟩ ≤ hiM own ⟨f, tt, g⟩ := by rw [← HLO.out, ← HHI.out]; omega
      have hl0 : 0 ≤ loM a own ⟨f, tt, g⟩ := by rw [← HLO.out]; omega
      have hh1 : hiM own ⟨f, tt, g⟩ ≤ of ∧ hiM own ⟨f, tt, g⟩ ≤ g := by rw [← HHI.out]; omega
      have hl1 : g - (hf - of) ≤ loM a own ⟨f, tt, g⟩ := by rw [← HLO.out]; omega
      obtain ⟨wb, rfl⟩ : ∃ wb : World, wb = wc := ⟨_, rfl⟩
      have hzV := HBV.out.size
      have hzb := hV1.size
      have hBbl := hA1.1.lt
      have hBbz := hA1.2
      have hNV := HRV.out.lt
      have e00 : pW a own ⟨f, tt, g⟩ l (loM a own ⟨f, tt, g⟩) = [] := pW_first ..
      have HS0 := Lib.hid (show Bar E T w wb ∧ SpF wb E nb (gEnd es M own (⟨f, tt, g⟩ :: l) (pW a own ⟨f, tt, g⟩ l (loM a own ⟨f, tt, g⟩))) ∧ SpF wb T nm (gTak ts M tk (pW a own ⟨f, tt, g⟩ l (loM a own ⟨f, tt, g⟩))) ∧ Blk wb w.heap.size 25 #[.slice Ab nb cb, .slice (some ⟨b2, om, none⟩) nm cm] ∧ Blk wb (w.heap.size + 1) 61 #[.int .i64 (f : Int), .int .i64 (tt : Int), .int .i64 g] ∧
          Blk wb Bb 48 #[.int .i64 (loM a own ⟨f, tt, g⟩), .int .i64 (hiM own ⟨f, tt, g⟩)] ∧ RowC wb N ((rg nb).map (mvd a ⟨f, tt, g⟩)) from by
        have hww : Below w.heap.size w wb := HBV.out.trans (hV1.mono hzV)
        rw [e00]
        exact ⟨(Bar.refl E T w).below hww, (HI.out.ends.old hww).congr fun _ _ => by simp [gEnd, gathT], (HI.out.taks.old hww).congr fun _ _ => by simp [gTak, gathT], HNV.out.below hV1 HNV.out.lt, HMV.out.below hV1 HMV.out.lt, hA1.1, HRV.out.keep (hV1.block N hNV)⟩)
      have x0 : wb.cell? ⟨Bb, 0, none⟩ = some (.int .i64 (loM a own ⟨f, tt, g⟩)) := hA1.1.cell 0
      have HOX := Lib.hid (And.intro hBbl (And.intro hNV (And.intro hBbz hNB)))
      clear hA1 hV1 HBV HRV HNV HMV HF14
      go_wp2_with fail
      clear x0
      go_loopw [7, 22] (fun mv xv wr => ∃ x : Int, xv = .int .i64 x ∧ loM a own ⟨f, tt, g⟩ ≤ x ∧ x ≤ hiM own ⟨f, tt, g⟩ + 1 ∧ mv = .int .i64 ((M + (pW a own ⟨f, tt, g⟩ l x).length : Nat) : Int) ∧ Bar E T w wr ∧ SpF wr E nb (gEnd es M own (⟨f, tt, g⟩ :: l) (pW a own ⟨f, tt, g⟩ l x)) ∧ SpF wr T nm (gTak ts M tk (pW a own ⟨f, tt, g⟩ l x)) ∧ Blk wr w.heap.size 25 #[.slice Ab nb cb, .slice (some ⟨b2, om, none⟩) nm cm] ∧ Blk wr (w.heap.size + 1) 61 #[.int .i64 (f : Int), .int .i64 (tt : Int), .int .i64 g] ∧
          Blk wr Bb 48 #[.int .i64 (loM a own ⟨f, tt, g⟩), .int .i64 (hiM own ⟨f, tt, g⟩)] ∧ RowC wr N ((rg nb).map (mvd a ⟨f, tt, g⟩))) (fun _ xv _ => (hiM own ⟨f, tt, g⟩ + 1 - intOf xv).toNat)
      case atStart => exact ⟨_, rfl, Int.le_refl _, by omega, by rw [e00]; simp, HS0.out⟩
      case round =>
        obtain ⟨x, rfl, hx0, hx1, rfl, hB, hE, hT, hNt, hMv, hSp, hRw⟩ := hrel
        have s1 : wr.cell? ⟨Bb, 1, none⟩ = some (.int .i64 (hiM own ⟨f, tt, g⟩)) := hSp.cell 1
        by_cases hlt : x ≤ hiM own ⟨f, tt, g⟩
        · have hpl := pW_le a own ⟨f, tt, g⟩ l hx0 hlt
          have HPS := Lib.hid (pW_snoc a own ⟨f, tt, g⟩ l hx0)
          have hM2 : (M + (pW a own ⟨f, tt, g⟩ l x).length) + (waysT (mvd a ⟨f, tt, g⟩) (mvx own ⟨f, tt, g⟩ x) l).length ≤ 1000000 := by omega
          have hM3 : M + (pW a own ⟨f, tt, g⟩ l x).length ≤ 1000000 := by omega
          have HGE := Lib.hid (gEnd_snoc es M own ⟨f, tt, g⟩ l x (pW a own ⟨f, tt, g⟩ l x) (waysT (mvd a ⟨f, tt, g⟩) (mvx own ⟨f, tt, g⟩ x) l))
          have HGT := Lib.hid (gTak_snoc ts M tk x (pW a own ⟨f, tt, g⟩ l x) (waysT (mvd a ⟨f, tt, g⟩) (mvx own ⟨f, tt, g⟩ x) l))
          rw [← HPS.out] at HGE HGT
          have HLN := Lib.hid (congrArg List.length HPS.out)
          rw [List.length_append, List.length_map] at HLN
          generalize pW a own ⟨f, tt, g⟩ l x = P at *
          generalize hQ : M + P.length = Q at *
          have HQ := Lib.hid hQ
          clear hQ
          have HB := Lib.hid hB
          have HE := Lib.hid hE
          have HT := Lib.hid hT
          have HNt := Lib.hid hNt
          have HMv := Lib.hid hMv
          have HSp := Lib.hid hSp
          have HRw := Lib.hid hRw
          have HM2 := Lib.hid hM2
          have hzr : w.heap.size ≤ wr.heap.size := hB.size
          have hzm := hMv.lt
          have hSr := HI.out.own.bar hB (fun _ => HI.out.n4)
          clear hB hE hT hNt hMv hSp hRw hM hpl hM2
          go_upto_region 19 with (go_at_call 20; refine (copyInts_any bo nb co _ _ _ hSr (by omega)).mono ?_; rintro e w4 ⟨A4, c4, rfl, ho4, hb4⟩; have HO4 := Lib.hid ho4; have HB4 := Lib.hid hb4; clear ho4 hb4)
          clear hSr s1
          obtain ⟨O, rfl, hOz, hrO⟩ := RowC.of_own HO4.out (by rw [has_len]) hnb0
          have hOl := hrO.lt
          have hzr4 := HB4.out.size
          have HF19 := Lib.hid (fun (W : World) (hb : Bar E T w W) (hm : Blk W (w.heap.size + 1) 61 #[.int .i64 (f : Int), .int .i64 (tt : Int), .int .i64 g]) => (show (W.cell? ⟨w.heap.size + 1, 0, none⟩ = some (.int .i64 (f : Int)) ∧ W.cell? ⟨w.heap.size + 1, 1, none⟩ = some (.int .i64 (tt : Int))) ∧ W.cell? ⟨bo, oo + f, none⟩ = some (.int .i64 of) ∧ W.cell? ⟨bo, oo + tt, none⟩ = some (.int .i64 ot) from
            ⟨⟨hm.cell 0, hm.cell 1⟩, cell_bar HOC.out.1 hb HI.out.n4, cell_bar HOC.out.2 hb HI.out.n4⟩))
          have hB4 := HB.out.below HB4.out
          have hM4 := HMv.out.below HB4.out HMv.out.lt
          have hB5 := hB4.drew.setCell ⟨O, f, none⟩ (.inr (.inr (by show w.heap.size ≤ O; omega))) (.int .i64 (of - x))
          have hM5 := hM4.drew.far (p := ⟨O, f, none⟩) (by show w.heap.size + 1 ≠ O; omega) (.int .i64 (of - x))
          have HF1 := Lib.hid (HF19.out _ hB4.drew hM4.drew)
          have HF2 := Lib.hid (HF19.out _ hB5 hM5)
          have HFR := Lib.hid (And.intro (hrO.cell (k := f) (by rw [has_len]; exact hfb)) (hrO.cell (k := tt) (by rw [has_len]; exact htb)))
          have HFZ := Lib.hid (And.intro (hrO.frozen f) (hrO.frozen tt))
          have HW1 := Lib.hid (show IntKind.i64.wrap (of - x) = of - x from IntWalk.i64_in _ (by omega))
          have HW2 := Lib.hid (show IntKind.i64.wrap (ot + x) = ot + x from IntWalk.i64_in _ (by omega))
          have HR5 := Lib.hid (show RowC ((w4.setCell ⟨O, f, none⟩ (.int .i64 (of - x))).setCell ⟨O, tt, none⟩ (.int .i64 (ot + x))).drew O ((rg nb).map (mvx own ⟨f, tt, g⟩ x)) from by
            have h := (hrO.set_ (k := f) (by rw [has_len]; exact hfb) (of - x)).set_ (k := tt) (by rw [List.length_set, has_len]; exact htb) (ot + x)
            rw [HO.out.1, HO.out.2, has_move hfb htb hne2] at h
            rw [← HO.out.1, ← HO.out.2] at h
            exact h)
          have hfar : ∀ {gg : Nat} {t : TypeId} {cs : Array Value}, Blk wr gg t cs → Blk ((w4.setCell ⟨O, f, none⟩ (.int .i64 (of - x))).setCell ⟨O, tt, none⟩ (.int .i64 (ot + x))).drew gg t cs := fun h =>
            (((h.below HB4.out h.lt).far (p := ⟨O, f, none⟩) (by have := h.lt; show _ ≠ O; omega) _).far (p := ⟨O, tt, none⟩) (by have := h.lt; show _ ≠ O; omega) _)
          have HBr5 := Lib.hid (show Bar E T w ((w4.setCell ⟨O, f, none⟩ (.int .i64 (of - x))).setCell ⟨O, tt, none⟩ (.int .i64 (ot + x))).drew from hB5.setCell ⟨O, tt, none⟩ (.inr (.inr (by show w.heap.size ≤ O; omega))) (.int .i64 (ot + x)))
          have HE5 := Lib.hid (show SpF _ E nb _ from hfar HE.out)
          have HT5 := Lib.hid (show SpF _ T nm _ from hfar HT.out)
          have HNt5 := Lib.hid (hfar HNt.out)
          have HMv5 := Lib.hid (hfar HMv.out)
          have HSp5 := Lib.hid (hfar HSp.out)
          have HRw5 := Lib.hid (show RowC ((w4.setCell ⟨O, f, none⟩ (.int .i64 (of - x))).setCell ⟨O, tt, none⟩ (.int .i64 (ot + x))).drew N _ from by
            obtain ⟨cs, h1, h2⟩ := HRw.out
            exact ⟨cs, hfar h1, h2⟩)
          clear hrO hB4 hM4 hB5 hM5 hfar HO4
          refine wp_region_PL [2, 5, 8, 10, 15, 17] (fun W => (W.cell? ⟨w.heap.size + 1, 0, none⟩ = some (.int .i64 (f : Int)) ∧ W.cell? ⟨w.heap.size + 1, 1, none⟩ = some (.int .i64 (tt : Int))) ∧ W.cell? ⟨bo, oo + f, none⟩ = some (.int .i64 of) ∧ W.cell? ⟨bo, oo + tt, none⟩ = some (.int .i64 ot)) rfl (by kernel_rfl) (HF1.out) (fun hF0 => ?_)
          (refine wpAnyP_takeL (i := 0) (v := ?_) rfl (by kernel_rfl) (by kernel_rfl) (by kernel_rfl) (fun _ _ _ h => h) (by rfl) ?_ ?_; rotate_left 1; focus (intro w; go_simp; try with_reducible rfl))
          try simp only [Act.put, List.setIfInBounds_toArray, List.set_cons_zero, List.set_cons_succ]
          (refine wpAnyP_takeL (i := 1) (v := ?_) rfl (by kernel_rfl) (by kernel_rfl) (by kernel_rfl) (fun _ _ _ h => h) (by rfl) ?_ ?_; rotate_left 1; focus (intro w; go_simp; try with_reducible rfl))
          try simp only [Act.put, List.setIfInBounds_toArray, List.set_cons_zero, List.set_cons_succ]
          (refine wpAnyP_loadL (i := 2) (v := ?_) rfl (by kernel_rfl) (by kernel_rfl) (by kernel_rfl) (by rfl) (fun _ _ _ h => h) hF0 (by rfl) ?_ ?_; rotate_left 1; focus (intro w hFw; (try dsimp only at hFw); go_split_ands; go_simp; try with_reducible rfl))
          try simp only [Act.put, List.setIfInBounds_toArray, List.set_cons_zero, List.set_cons_succ]
          (refine wpAnyP_takeL (i := 3) (v := ?_) rfl (by kernel_rfl) (by kernel_rfl) (by kernel_rfl) (fun _ _ _ h => h) (by rfl) ?_ ?_; rotate_left 1; focus (intro w; go_simp; try with_reducible rfl))
          try simp only [Act.put, List.setIfInBounds_toArray, List.set_cons_zero, List.set_cons_succ]
          (refine wpAnyP_takeL (i := 4) (v := ?_) rfl (by kernel_rfl) (by kernel_rfl) (by kernel_rfl) (fun _ _ _ h => h) (by rfl) ?_ ?_; rotate_left 1; focus (intro w; go_simp; try with_reducible rfl))
          try simp only [Act.put, List.setIfInBounds_toArray, List.set_cons_zero, List.set_cons_succ]
          (refine wpAnyP_loadL (i := 5) (v := ?_) rfl (by kernel_rfl) (by kernel_rfl) (by kernel_rfl) (by rfl) (fun _ _ _ h => h) hF0 (by rfl) ?_ ?_; rotate_left 1; focus (intro w hFw; (try dsimp only at hFw); go_split_ands; go_simp; try with_reducible rfl))
          try simp only [Act.put, List.setIfInBounds_toArray, List.set_cons_zero, List.set_cons_succ]
          (refine wpAnyP_takeL (i := 6) (v := ?_) rfl (by kernel_rfl) (by kernel_rfl) (by kernel_rfl) (fun _ _ _ h => h) (by rfl) ?_ ?_; rotate_left 1; focus (intro w; go_simp; try with_reducible rfl))
          try simp only [Act.put, List.setIfInBounds_toArray, List.set_cons_zero, List.set_cons_succ]
          (refine wpAnyP_takeL (i := 7) (v := ?_) rfl (by kernel_rfl) (by kernel_rfl) (by kernel_rfl) (fun _ _ _ h => h) (by rfl) ?_ ?_; rotate_left 1; focus (intro w; go_simp; try with_reducible rfl))
          try simp only [Act.put, List.setIfInBounds_toArray, List.set_cons_zero, List.set_cons_succ]
          (refine wpAnyP_loadL (i := 8) (v := ?_) rfl (by kernel_rfl) (by kernel_rfl) (by kernel_rfl) (by rfl) (fun _ _ _ h => h) hF0 (by rfl) ?_ ?_; rotate_left 1; focus (intro w hFw; (try dsimp only at hFw); go_split_ands; go_simp; try with_reducible rfl))
          try simp only [Act.put, List.setIfInBounds_toArray, List.set_cons_zero, List.set_cons_succ]
          (refine wpAnyP_takeL (i := 9) (v := ?_) rfl (by kernel_rfl) (by kernel_rfl) (by kernel_rfl) (fun _ _ _ h => h) (by rfl) ?_ ?_; rotate_left 1; focus (intro w; go_simp; try with_reducible rfl))
          try simp only [Act.put, List.setIfInBounds_toArray, List.set_cons_zero, List.set_cons_succ]
          (refine wpAnyP_loadL (i := 10) (v := ?_) rfl (by kernel_rfl) (by kernel_rfl) (by kernel_rfl) (by rfl) (fun _ _ _ h => h) hF0 (by rfl) ?_ ?_; rotate_left 1; focus (intro w hFw; (try dsimp only at hFw); go_split_ands; go_simp; try with_reducible rfl))
          try simp only [Act.put, List.setIfInBounds_toArray, List.set_cons_zero, List.set_cons_succ]
          (refine wpAnyP_takeL (i := 11) (v := ?_) rfl (by kernel_rfl) (by kernel_rfl) (by kernel_rfl) (fun _ _ _ h => h) (by rfl) ?_ ?_; rotate_left 1; focus (intro w; go_simp; try with_reducible rfl))
          try simp only [Act.put, List.setIfInBounds_toArray, List.set_cons_zero, List.set_cons_succ]
          (refine wpAnyP_takeL (i := 12) (v := ?_) rfl (by kernel_rfl) (by kernel_rfl) (by kernel_rfl) (fun _ _ _ h => h) (by rfl) ?_ ?_; rotate_left 1; focus (intro w; go_simp; (first | (rw [HW1.out]) | (with_reducible rfl))))
          try simp only [Act.put, List.setIfInBounds_toArray, List.set_cons_zero, List.set_cons_succ]
          (refine wpAnyP_takeL (i := 13) (v := ?_) rfl (by kernel_rfl) (by kernel_rfl) (by kernel_rfl) (fun _ _ _ h => h) (by rfl) ?_ ?_; rotate_left 1; focus (intro w; go_simp; try with_reducible rfl))
          try simp only [Act.put, List.setIfInBounds_toArray, List.set_cons_zero, List.set_cons_succ]
          (refine wpAnyP_takeL (i := 14) (v := ?_) rfl (by kernel_rfl) (by kernel_rfl) (by kernel_rfl) (fun _ _ _ h => h) (by rfl) ?_ ?_; rotate_left 1; focus (intro w; go_simp; try with_reducible rfl))
          try simp only [Act.put, List.setIfInBounds_toArray, List.set_cons_zero, List.set_cons_succ]
          (refine wpAnyP_loadL (i := 15) (v := ?_) rfl (by kernel_rfl) (by kernel_rfl) (by kernel_rfl) (by rfl) (fun _ _ _ h => h) hF0 (by rfl) ?_ ?_; rotate_left 1; focus (intro w hFw; (try dsimp only at hFw); go_split_ands; go_simp; try with_reducible rfl))
          try simp only [Act.put, List.setIfInBounds_toArray, List.set_cons_zero, List.set_cons_succ]
          (refine wpAnyP_takeL (i := 16) (v := ?_) rfl (by kernel_rfl) (by kernel_rfl) (by kernel_rfl) (fun _ _ _ h => h) (by rfl) ?_ ?_; rotate_left 1; focus (intro w; go_simp; try with_reducible rfl))
          try simp only [Act.put, List.setIfInBounds_toArray, List.set_cons_zero, List.set_cons_succ]
          (refine wpAnyP_loadL (i := 17) (v := ?_) rfl (by kernel_rfl) (by kernel_rfl) (by kernel_rfl) (by rfl) (fun _ _ _ h => h) hF0 (by rfl) ?_ ?_; rotate_left 1; focus (intro w hFw; (try dsimp only at hFw); go_split_ands; go_simp; try with_reducible rfl))
          try simp only [Act.put, List.setIfInBounds_toArray, List.set_cons_zero, List.set_cons_succ]
          (refine wpAnyP_takeL (i := 18) (v := ?_) rfl (by kernel_rfl) (by kernel_rfl) (by kernel_rfl) (fun _ _ _ h => h) (by rfl) ?_ ?_; rotate_left 1; focus (intro w; go_simp; try with_reducible rfl))
          try simp only [Act.put, List.setIfInBounds_toArray, List.set_cons_zero, List.set_cons_succ]
          (refine wpAnyP_takeL (i := 19) (v := ?_) rfl (by kernel_rfl) (by kernel_rfl) (by kernel_rfl) (fun _ _ _ h => h) (by rfl) ?_ ?_; rotate_left 1; focus (intro w; go_simp; (first | (rw [HW2.out]) | (with_reducible rfl))))
          try simp only [Act.put, List.setIfInBounds_toArray, List.set_cons_zero, List.set_cons_succ]
          (refine wpAnyP_takeL (i := 20) (v := ?_) rfl (by kernel_rfl) (by kernel_rfl) (by kernel_rfl) (fun _ _ _ h => h) (by rfl) ?_ ?_; rotate_left 1; focus (intro w; go_simp; try with_reducible rfl))
          try simp only [Act.put, List.setIfInBounds_toArray, List.set_cons_zero, List.set_cons_succ]
          refine wpAnyP_step (i := 21) rfl (by kernel_rfl) (by rfl) (fun K hK => ?_)
          go_simp
          (have q1 := HFZ.out.1; have q2 := HFR.out.1; go_simp; clear q1 q2)
          (refine hK _ _ (HF2.out) (fun hF1 => ?_); clear hK K hF0)
          try simp only [Act.put, List.setIfInBounds_toArray, List.set_cons_zero, List.set_cons_succ]
          (refine wpAnyP_takeL (i := 22) (v := ?_) rfl (by kernel_rfl) (by kernel_rfl) (by kernel_rfl) (fun _ _ _ h => h) (by rfl) ?_ ?_; rotate_left 1; focus (intro w; go_simp; try with_reducible rfl))
          try simp only [Act.put, List.setIfInBounds_toArray, List.set_cons_zero, List.set_cons_succ]
          refine wpAnyP_last (i := 23) rfl (by kernel_rfl) (by kernel_rfl) (by rfl) (fun K hK => ?_)
          go_simp
          (have q1 := HFZ.out.2; have q2 := HFR.out.2; go_simp; clear q1 q2)
          (refine hK _ _ ?_; clear hK K)
          try simp only [Act.put, List.setIfInBounds_toArray, List.set_cons_zero, List.set_cons_succ]
          refine wpAnyP_done (by kernel_rfl) ?_ _
          obtain ⟨V5, hV5⟩ : ∃ V5, ((w4.setCell ⟨O, f, none⟩ (.int .i64 (of - x))).setCell ⟨O, tt, none⟩ (.int .i64 (ot + x))).drew = V5 := ⟨_, rfl⟩
          rw [hV5] at HR5 HBr5 HE5 HT5 HNt5 HMv5 HSp5 HRw5 ⊢
          clear hV5 HF1 HF2 HFR HFZ HW1 HW2 HF19 HB4 HB HE HT HNt HMv HSp HRw
          have HTA := Lib.hid (HI.out.tak.bar HBr5.out HI.out.n5)
          have HFN := Lib.hid (fun (W : World) (hb : Below V5.heap.size V5 W) => (show W.cell? ⟨w.heap.size, 0, none⟩ = some (.slice Ab nb cb) ∧ W.cell? ⟨w.heap.size, 1, none⟩ = some (.slice (some ⟨b2, om, none⟩) nm cm) from
            ⟨(HNt5.out.below hb HNt5.out.lt).cell 0, (HNt5.out.below hb HNt5.out.lt).cell 1⟩))
          have HEL := Lib.hid (And.intro HI.out.ends.lt HI.out.taks.lt)
          have HREC := Lib.hid (fun (W : World) (A7 : Option Addr) (b7 c7 : Nat) (hb : Below V5.heap.size V5 W) (hs : Sl encI 1 W b7 A7 (k + 1) (tk ++ [x])) (hb7 : V5.heap.size ≤ b7) => HIH.out (mvx own ⟨f, tt, g⟩ x)
            (mvx_bd HOW.out (by show (f : Int) ≠ (tt : Int); omega) (by show (0 : Int) ≤ (f : Int); omega) (by show (f : Int) < (nb : Int); omega) (by omega) (by show g - (a (f : Int) - own (f : Int)) ≤ x; rw [← HEQ.out.1, ← HO.out.1]; omega) (by show x ≤ g; omega) (by show x ≤ own (f : Int); rw [← HO.out.1]; omega))
            (tk ++ [x]) Q (gEnd es M own (⟨f, tt, g⟩ :: l) P) (gTak ts M tk P) N O b7 (some ⟨N, 0, none⟩) (some ⟨O, 0, none⟩) A7 c1 c4 c7 W HM2.out
            (by
              have hbw : Bar E T w W := HBr5.out.below hb
              have hO := (HR5.out.keep (hb.block O HR5.out.lt)).slW
              have hN := (HRw5.out.keep (hb.block N HRw5.out.lt)).slW
              rw [has_len] at hO hN
              have hel := HEL.out
              have hox := HOX.out
              have hz5 := HBr5.out.size
              refine ⟨⟨HI.out.net.b.bar hbw (fun _ => HI.out.n1), HI.out.net.m.bar hbw HI.out.n2, HI.out.net.cb, HI.out.net.cm⟩, by rw [HTK.out]; exact hN, hO, hs, HE5.out.old hb, HT5.out.old hb, HI.out.et, HI.out.n1, HI.out.n2, ⟨by omega, by omega⟩, ⟨by omega, by omega⟩, fun _ => ⟨by omega, by omega⟩⟩))
          go_upto_region 20 with fail
          have hV : Below V5.heap.size V5 V5.drew := (Below.refl _ V5).drew
          have HK1 := Lib.hid (show IntKind.i64.wrap ((k : Int) + 1) = ((k + 1 : Nat) : Int) from by rw [IntWalk.i64_in _ (by omega)]; omega)
          refine wp_region_K2 [0] [] (fun W => W.cell? ⟨w.heap.size, 0, none⟩ = some (.slice Ab nb cb) ∧ W.cell? ⟨w.heap.size, 1, none⟩ = some (.slice (some ⟨b2, om, none⟩) nm cm)) (fun _ => True) rfl (by kernel_rfl) (HFN.out _ hV) (trivial) (fun hF0 hG0 => ?_)
          (refine wpAnyK_loadL Keep2.refl (i := 0) (v := ?_) rfl (Keep2.left (i := 0) (by rfl)) (by kernel_rfl) (by kernel_rfl) (by kernel_rfl) (fun _ _ _ h => h) hF0 (by rfl) ?_ ?_; rotate_left 1; focus (intro w hFw; (try dsimp only at hFw); go_split_ands; go_simp; try with_reducible rfl))
          try simp only [Act.put, List.setIfInBounds_toArray, List.set_cons_zero, List.set_cons_succ]
          (refine wpAnyK_takeL Keep2.refl (i := 1) (v := ?_) rfl (by kernel_rfl) (by kernel_rfl) (by kernel_rfl) (fun _ _ _ h => h) (by rfl) ?_ ?_; rotate_left 1; focus (intro w; go_simp; try with_reducible rfl))
          try simp only [Act.put, List.setIfInBounds_toArray, List.set_cons_zero, List.set_cons_succ]
          (refine wpAnyK_takeL Keep2.refl (i := 2) (v := ?_) rfl (by kernel_rfl) (by kernel_rfl) (by kernel_rfl) (fun _ _ _ h => h) (by rfl) ?_ ?_; rotate_left 1; focus (intro w; go_simp; (rw [HK1.out])))
          try simp only [Act.put, List.setIfInBounds_toArray, List.set_cons_zero, List.set_cons_succ]
          (refine wpAnyK_takeL Keep2.refl (i := 3) (v := ?_) rfl (by kernel_rfl) (by kernel_rfl) (by kernel_rfl) (fun _ _ _ h => h) (by rfl) ?_ ?_; rotate_left 1; focus (intro w; go_simp; try with_reducible rfl))
          try simp only [Act.put, List.setIfInBounds_toArray, List.set_cons_zero, List.set_cons_succ]
          (refine wpAnyK_takeL Keep2.refl (i := 4) (v := ?_) rfl (by kernel_rfl) (by kernel_rfl) (by kernel_rfl) (fun _ _ _ h => h) (by rfl) ?_ ?_; rotate_left 1; focus (intro w; go_simp; try with_reducible rfl))
          try simp only [Act.put, List.setIfInBounds_toArray, List.set_cons_zero, List.set_cons_succ]
          (refine wpAnyK_takeL Keep2.refl (i := 5) (v := ?_) rfl (by kernel_rfl) (by kernel_rfl) (by kernel_rfl) (fun _ _ _ h => h) (by rfl) ?_ ?_; rotate_left 1; focus (intro w; go_simp; try with_reducible rfl))
          try simp only [Act.put, List.setIfInBounds_toArray, List.set_cons_zero, List.set_cons_succ]
          (refine wpAnyK_takeL Keep2.refl (i := 7) (v := ?_) rfl (by kernel_rfl) (by kernel_rfl) (by kernel_rfl) (fun _ _ _ h => h) (by rfl) ?_ ?_; rotate_left 1; focus (intro w; go_simp; try with_reducible rfl))
          try simp only [Act.put, List.setIfInBounds_toArray, List.set_cons_zero, List.set_cons_succ]
          (refine wpAnyK_takeL Keep2.refl (i := 10) (v := ?_) rfl (by kernel_rfl) (by kernel_rfl) (by kernel_rfl) (fun _ _ _ h => h) (by rfl) ?_ ?_; rotate_left 1; focus (intro w; go_simp; try with_reducible rfl))
          try simp only [Act.put, List.setIfInBounds_toArray, List.set_cons_zero, List.set_cons_succ]
          (refine wpAnyK_takeL Keep2.refl (i := 11) (v := ?_) rfl (by kernel_rfl) (by kernel_rfl) (by kernel_rfl) (fun _ _ _ h => h) (by rfl) ?_ ?_; rotate_left 1; focus (intro w; go_simp; try with_reducible rfl))
          try simp only [Act.put, List.setIfInBounds_toArray, List.set_cons_zero, List.set_cons_succ]
          (refine wpAnyK_takeL Keep2.refl (i := 12) (v := ?_) rfl (by kernel_rfl) (by kernel_rfl) (by kernel_rfl) (fun _ _ _ h => h) (by rfl) ?_ ?_; rotate_left 1; focus (intro w; go_simp; try with_reducible rfl))
          try simp only [Act.put, List.setIfInBounds_toArray, List.set_cons_zero, List.set_cons_succ]
          refine wpAnyK_all (rs := [6, 8]) (by kernel_rfl) (by simp) ?_
          refine List.forall_mem_cons.2 ⟨?_, List.forall_mem_cons.2 ⟨?_, fun _ h => absurd h List.not_mem_nil⟩⟩
          · refine wpOp_of rfl (by rfl) (fun K hK => ?_)
            go_simp
            (refine (copyInts_any bt k ct At tk _ (HTA.out.old hV) (by omega)).mono ?_; rintro e w6 ⟨A6, c6, rfl, ho6, hb6⟩; (try replace hX := hX.old hb6); replace ho6 := ownsRow_base ho6 hV.size; replace hV := hV.trans (hb6.mono hV.size))
            (refine hK _ _ ⟨⟨fun _ _ => HFN.out _ hV, fun h => absurd h (by decide)⟩, ?_⟩; clear hK K)
            (refine wpAnyK_with (F := fun W => W.cell? ⟨w.heap.size, 0, none⟩ = some (.slice Ab nb cb) ∧ W.cell? ⟨w.heap.size, 1, none⟩ = some (.slice (some ⟨b2, om, none⟩) nm cm)) (HFN.out _ hV) (fun hF1 => ?_); clear hF0)
            try simp only [Act.put, List.setIfInBounds_toArray, List.set_cons_zero, List.set_cons_succ]
            refine wpAnyK_step (i := 8) rfl (by kernel_rfl) (by rfl) (fun K hK => ?_)
            go_simp
            (have hX := newX hV x; (try replace ho6 := ho6.alloc (.cells #[.int .i64 x] 3)); replace hV := hV.alloc hV.size (.cells #[.int .i64 x] 3))
            (refine hK _ _ (⟨fun _ _ => HFN.out _ hV, fun h => absurd h (by decide)⟩) ?_; clear hK K)
            (refine wpAnyK_with (F := fun W => W.cell? ⟨w.heap.size, 0, none⟩ = some (.slice Ab nb cb) ∧ W.cell? ⟨w.heap.size, 1, none⟩ = some (.slice (some ⟨b2, om, none⟩) nm cm)) (HFN.out _ hV) (fun hF2 => ?_); clear hF1)
            try simp only [Act.put, List.setIfInBounds_toArray, List.set_cons_zero, List.set_cons_succ]
            refine wpAnyK_step (i := 9) rfl (by kernel_rfl) (by rfl) (fun K hK => ?_)
            (refine wp_append_sl _ _ 22 rfl _ 3 i0 _ 8 Try.underlying22 hi iz0 iz1 iz2 rfl (by omega) encI_len _ k _ (by rfl) ho6 _ _ 1 1 [x] (by rfl) hX oneI (by unfold maxLen; omega) (by omega) hV.size ?_; intro A7 c7 w7 hown7 hgrow7 _; have hV7 := below_own ho6 hgrow7 hV (Nat.le_refl _) (Nat.le_refl _); have hown8 : w7.ownsRow V5.heap.size 3 1 (.slice A7 (k + 1) c7) (k + 1) ((tk ++ [x]).flatMap encI) := (by rw [List.flatMap_append]; exact hown7); obtain ⟨b7, hb7, hs7⟩ := Sl.of_own (enc := encI) (l := tk ++ [x]) encI_len (by have := HI.out.tak.len; simp; omega) hown8)
            (refine hK _ _ (⟨fun _ _ => HFN.out _ hV7, fun h => absurd h (by decide)⟩) ?_; clear hK K)
            (refine wpAnyK_with (F := fun W => W.cell? ⟨w.heap.size, 0, none⟩ = some (.slice Ab nb cb) ∧ W.cell? ⟨w.heap.size, 1, none⟩ = some (.slice (some ⟨b2, om, none⟩) nm cm)) (HFN.out _ hV7) (fun hF3 => ?_); clear hF2)
            try simp only [Act.put, List.setIfInBounds_toArray, List.set_cons_zero, List.set_cons_succ]
            refine wpAnyK_step (i := 13) rfl (by kernel_rfl) (by rfl) (fun K hK => ?_)
            go_simp
            (refine (HREC.out w7 A7 b7 c7 hV7 hs7 hb7).mono ?_; rintro e w8 ⟨rfl, hb8, he8, ht8⟩)
            (refine hK _ _ (Keep2.no (by kernel_rfl) (by kernel_rfl)) ?_; clear hK K)
            try simp only [Act.put, List.setIfInBounds_toArray, List.set_cons_zero, List.set_cons_succ]
            (refine wpAnyK_takeL Keep2.refl (i := 14) (v := ?_) rfl (by kernel_rfl) (by kernel_rfl) (by kernel_rfl) (fun _ _ _ h => h) (by rfl) ?_ ?_; rotate_left 1; focus (intro w; go_simp; try with_reducible rfl))
            try simp only [Act.put, List.setIfInBounds_toArray, List.set_cons_zero, List.set_cons_succ]
            refine wpAnyK_done (by kernel_rfl) ?_ _
            have hx80 : 0 ≤ x ∧ x ≤ 8000000 := (by omega)
            have HBF := Lib.hid (And.intro (HBr5.out.below hV7) hb8)
            have HEF := Lib.hid (And.intro he8 ht8)
            have HV7 := Lib.hid hV7
            clear hb8 he8 ht8 hV7 hs7 hb7
            go_wp2_with fail
            have hfe := HEL.out
            have hox := HOX.out
            have hz5 := HBr5.out.size
            have hz7 := HV7.out.size
            refine ⟨⟨x + 1, rfl, by omega, by omega, ?_, HBF.out.1.trans HBF.out.2, ?_, ?_, (HNt5.out.below HV7.out HNt5.out.lt).bar HBF.out.2 (by omega) (by omega), (HMv5.out.below HV7.out HMv5.out.lt).bar HBF.out.2 (by omega) (by omega), (HSp5.out.below HV7.out HSp5.out.lt).bar HBF.out.2 (by omega) (by omega), (HRw5.out.keep (HV7.out.block N HRw5.out.lt)).bar HBF.out.2 (by omega) (by omega)⟩, ?_⟩
            (rw [HLN.out, ← Nat.add_assoc, HQ.out]; simp)
            (have h9 := HEF.out.1; rw [HGE.out] at h9; exact h9)
            (have h9 := HEF.out.2; rw [HGT.out] at h9; exact h9)
            (simp only [intOf]; omega)
          · refine wpOp_of rfl (by rfl) (fun K hK => ?_)
            go_simp
            (have hX := newX hV x; (try replace ho6 := ho6.alloc (.cells #[.int .i64 x] 3)); replace hV := hV.alloc hV.size (.cells #[.int .i64 x] 3))
            (refine hK _ _ ⟨⟨fun _ _ => HFN.out _ hV, fun h => absurd h (by decide)⟩, ?_⟩; clear hK K)
            (refine wpAnyK_with (F := fun W => W.cell? ⟨w.heap.size, 0, none⟩ = some (.slice Ab nb cb) ∧ W.cell? ⟨w.heap.size, 1, none⟩ = some (.slice (some ⟨b2, om, none⟩) nm cm)) (HFN.out _ hV) (fun hF5 => ?_); clear hF0)
            try simp only [Act.put, List.setIfInBounds_toArray, List.set_cons_zero, List.set_cons_succ]
            refine wpAnyK_step (i := 6) rfl (by kernel_rfl) (by rfl) (fun K hK => ?_)
            go_simp
            (refine (copyInts_any bt k ct At tk _ (HTA.out.old hV) (by omega)).mono ?_; rintro e w6 ⟨A6, c6, rfl, ho6, hb6⟩; (try replace hX := hX.old hb6); replace ho6 := ownsRow_base ho6 hV.size; replace hV := hV.trans (hb6.mono hV.size))
            (refine hK _ _ (⟨fun _ _ => HFN.out _ hV, fun h => absurd h (by decide)⟩) ?_; clear hK K)
            (refine wpAnyK_with (F := fun W => W.cell? ⟨w.heap.size, 0, none⟩ = some (.slice Ab nb cb) ∧ W.cell? ⟨w.heap.size, 1, none⟩ = some (.slice (some ⟨b2, om, none⟩) nm cm)) (HFN.out _ hV) (fun hF6 => ?_); clear hF5)
            try simp only [Act.put, List.setIfInBounds_toArray, List.set_cons_zero, List.set_cons_succ]
            refine wpAnyK_step (i := 9) rfl (by kernel_rfl) (by rfl) (fun K hK => ?_)
            (refine wp_append_sl _ _ 22 rfl _ 3 i0 _ 8 Try.underlying22 hi iz0 iz1 iz2 rfl (by omega) encI_len _ k _ (by rfl) ho6 _ _ 1 1 [x] (by rfl) hX oneI (by unfold maxLen; omega) (by omega) hV.size ?_; intro A7 c7 w7 hown7 hgrow7 _; have hV7 := below_own ho6 hgrow7 hV (Nat.le_refl _) (Nat.le_refl _); have hown8 : w7.ownsRow V5.heap.size 3 1 (.slice A7 (k + 1) c7) (k + 1) ((tk ++ [x]).flatMap encI) := (by rw [List.flatMap_append]; exact hown7); obtain ⟨b7, hb7, hs7⟩ := Sl.of_own (enc := encI) (l := tk ++ [x]) encI_len (by have := HI.out.tak.len; simp; omega) hown8)
            (refine hK _ _ (⟨fun _ _ => HFN.out _ hV7, fun h => absurd h (by decide)⟩) ?_; clear hK K)
            (refine wpAnyK_with (F := fun W => W.cell? ⟨w.heap.size, 0, none⟩ = some (.slice Ab nb cb) ∧ W.cell? ⟨w.heap.size, 1, none⟩ = some (.slice (some ⟨b2, om, none⟩) nm cm)) (HFN.out _ hV7) (fun hF7 => ?_); clear hF6)
            try simp only [Act.put, List.setIfInBounds_toArray, List.set_cons_zero, List.set_cons_succ]
            refine wpAnyK_step (i := 13) rfl (by kernel_rfl) (by rfl) (fun K hK => ?_)
            go_simp
            (refine (HREC.out w7 A7 b7 c7 hV7 hs7 hb7).mono ?_; rintro e w8 ⟨rfl, hb8, he8, ht8⟩)
            (refine hK _ _ (Keep2.no (by kernel_rfl) (by kernel_rfl)) ?_; clear hK K)
            try simp only [Act.put, List.setIfInBounds_toArray, List.set_cons_zero, List.set_cons_succ]
            (refine wpAnyK_takeL Keep2.refl (i := 14) (v := ?_) rfl (by kernel_rfl) (by kernel_rfl) (by kernel_rfl) (fun _ _ _ h => h) (by rfl) ?_ ?_; rotate_left 1; focus (intro w; go_simp; try with_reducible rfl))
            try simp only [Act.put, List.setIfInBounds_toArray, List.set_cons_zero, List.set_cons_succ]
            refine wpAnyK_done (by kernel_rfl) ?_ _
            have hx80 : 0 ≤ x ∧ x ≤ 8000000 := (by omega)
            have HBF := Lib.hid (And.intro (HBr5.out.below hV7) hb8)
            have HEF := Lib.hid (And.intro he8 ht8)
            have HV7 := Lib.hid hV7
            clear hb8 he8 ht8 hV7 hs7 hb7
            go_wp2_with fail
            have hfe := HEL.out
            have hox := HOX.out
            have hz5 := HBr5.out.size
            have hz7 := HV7.out.size
            refine ⟨⟨x + 1, rfl, by omega, by omega, ?_, HBF.out.1.trans HBF.out.2, ?_, ?_, (HNt5.out.below HV7.out HNt5.out.lt).bar HBF.out.2 (by omega) (by omega), (HMv5.out.below HV7.out HMv5.out.lt).bar HBF.out.2 (by omega) (by omega), (HSp5.out.below HV7.out HSp5.out.lt).bar HBF.out.2 (by omega) (by omega), (HRw5.out.keep (HV7.out.block N HRw5.out.lt)).bar HBF.out.2 (by omega) (by omega)⟩, ?_⟩
            (rw [HLN.out, ← Nat.add_assoc, HQ.out]; simp)
            (have h9 := HEF.out.1; rw [HGE.out] at h9; exact h9)
            (have h9 := HEF.out.2; rw [HGT.out] at h9; exact h9)
            (simp only [intOf]; omega)
        · obtain rfl : x = hiM own ⟨f, tt, g⟩ + 1 := by omega
          rw [pW_last] at hE hT ⊢
          have HBz := Lib.hid hB
          have HEz := Lib.hid hE
          have HTz := Lib.hid hT
          clear hB hE hT hNt hMv hSp hRw
          go_wp2_with fail
          go_ret
          exact ⟨rfl, HBz.out, HEz.out, HTz.out⟩
end Go.Proofs.Ytkphgdkjjklajaa
