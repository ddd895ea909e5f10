/-
  trace.Samples: the fewest samples that tell all suspects apart.
-/
import Derived.Test.YtkphgdkjjklajaaDoorTrApart
set_option linter.unusedVariables false
set_option linter.unusedSimpArgs false
namespace Go.Proofs.YtkphgdkjjklajaaDoor
open Go.RowKit Go.Shelf Go.Sort

theorem choT_mem {n : Nat} : ∀ {many : Nat} {f : Int} {x : List Int}, x ∈ choT n many f → ∀ b ∈ x, 0 ≤ b ∧ b < n
  | 0, _, x, h, b, hb => by simp [choT] at h; subst h; cases hb
  | many + 1, f, x, h, b, hb => by
    rw [choT_succ] at h
    obtain ⟨i, hi, h⟩ := List.mem_flatMap.1 h
    obtain ⟨y, hy, rfl⟩ := List.mem_map.1 h
    have hir := mem_rg.1 (List.mem_filter.1 hi).1
    rcases List.mem_cons.1 hb with rfl | hb
    · exact hir
    · exact choT_mem hy b hb
theorem choT_len {n : Nat} : ∀ {many : Nat} {f : Int} {x : List Int}, x ∈ choT n many f → x.length = many
  | 0, _, x, h => by simp [choT] at h; subst h; rfl
  | many + 1, f, x, h => by
    rw [choT_succ] at h
    obtain ⟨i, hi, h⟩ := List.mem_flatMap.1 h
    obtain ⟨y, hy, rfl⟩ := List.mem_map.1 h
    simp [choT_len hy]
theorem samp_hit {n : Nat} {known : List (List Span)} {many : Nat} (hm : many ≤ n) (h : ∀ j, j < many → ∀ y ∈ choT n j 0, apartT known y = false) {pre rest : List (List Int)} {x : List Int} (hx : choT n many 0 = pre ++ x :: rest)
    (hp : ∀ y ∈ pre, apartT known y = false) (ha : apartT known x = true) : sampT n known = some x := by
  unfold sampT
  rw [List.find?_eq_some_iff_append]
  obtain ⟨k, rfl⟩ := Nat.exists_eq_add_of_le hm
  refine ⟨ha, (List.range many).flatMap (fun j => choT (many + k) j 0) ++ pre, rest ++ ((List.range k).map (fun j => many + (j + 1))).flatMap (fun j => choT (many + k) j 0), ?_, fun y hy => ?_⟩
  · rw [show many + k + 1 = many + (k + 1) by omega, List.range_add, List.flatMap_append, List.range_succ_eq_map, List.map_cons, List.flatMap_cons, Nat.add_zero, hx, List.map_map]
    simp [Function.comp_def]
  · rcases List.mem_append.1 hy with h1 | h1
    · obtain ⟨j, hj, h2⟩ := List.mem_flatMap.1 h1
      rw [h j (List.mem_range.1 hj) y h2]; rfl
    · rw [hp y h1]; rfl
theorem samp_none {n : Nat} {known : List (List Span)} (h : ∀ j, j < n + 1 → ∀ y ∈ choT n j 0, apartT known y = false) : sampT n known = none := by
  unfold sampT
  rw [List.find?_eq_none]
  intro y hy
  obtain ⟨j, hj, h2⟩ := List.mem_flatMap.1 hy
  rw [h j (List.mem_range.1 hj) y h2]; simp

/-- does one of the samples tell the i-th from the k-th -/
def tellI (X : Int → List Span) (l x : List Int) (i k : Nat) : Bool := x.any fun b => tellsT (spanAt (X (l.getD i 0)) b) (spanAt (X (l.getD k 0)) b)
theorem known_get (X : Int → List Span) (l : List Int) {i : Nat} (h : i < l.length) : (l.map X).getD i [] = X (l.getD i 0) := by
  simp [List.getD_eq_getElem?_getD, h]
theorem apart_yes {X : Int → List Span} {l x : List Int} (h : ∀ i, i < l.length → ∀ k, k < i → tellI X l x i k = true) : apartT (l.map X) x = true := by
  unfold apartT
  rw [List.all_eq_true]
  intro i hi
  rw [List.all_eq_true]
  intro k hk
  rw [List.length_map] at hi
  have hi := List.mem_range.1 hi
  have hk := List.mem_range.1 hk
  rw [known_get X l hi, known_get X l (by omega)]
  exact h i hi k hk
theorem apart_no {X : Int → List Span} {l x : List Int} {i k : Nat} (hi : i < l.length) (hk : k < i) (h : tellI X l x i k = false) : apartT (l.map X) x = false := by
  cases h2 : apartT (l.map X) x with
  | false => rfl
  | true =>
    unfold apartT at h2
    rw [List.all_eq_true] at h2
    have h3 := h2 i (List.mem_range.2 (by simpa using hi))
    rw [List.all_eq_true] at h3
    have h4 := h3 k (List.mem_range.2 hk)
    rw [known_get X l hi, known_get X l (by omega)] at h4
    unfold tellI at h
    rw [h4] at h
    cases h

theorem wp_updateK {α : Type} {enc : α → Value} {ok : α → Prop} {P : Program} {K0 : TypeId} [DecidableEq α] {o : Oper} {a : Act} {w : World} {K : Act → World → Prop} {Q : Exit → Act → World → Prop} (m x v : Operand) (T E : TypeId) (hop : o.op = Op.mapUpdate T m x v) (KK : KeyK P K0 enc ok) (ht : P.underlying T = some (.map K0 E))
    (b : Nat) (c : α → Option Value) (hm : a.eval m = .map (some b)) (h : KMap enc ok w b c) (q : α) (hx : a.eval x = enc q) (hq : ok q) (y : Value) (hv : a.eval v = y)
    (hK : ∀ w', KMap enc ok w' b (updK c q y) → w.grownBy w' (some b) → w'.heap.size = w.heap.size → K (a.put o.dst undef) w') : o.wp P a w K Q := by
  obtain ⟨w', hrun, r1, r2, r3⟩ := run_updateK KK ht h q hq y
  unfold Oper.wp
  simp [execOp, hop, hm, hx, hv, hrun, Result.andThen]
  exact hK w' r1 r2 r3

theorem told_snoc (T : Int → SpD) (nb : Nat) (S : List Int) (a : Int) (d : SpD) : toldM (fun q => if q = a then d else T q) nb (S ++ [a]) = updK (toldM T nb S) a (.slice d.A nb d.c) := by
  funext q
  unfold toldM updK
  by_cases h : q = a <;> simp [h]
theorem Sl.off_map {α : Type} {enc : α → List Value} {sz : Nat} {w : World} {b n : Nat} {A : Option Addr} {l : List α} (h : Sl enc sz w b A n l) (hn : 0 < n) (hs : ∀ x, (enc x).length = sz) (hz : 0 < sz) {Bm : Nat} {es : Array MapEntry} {c : Nat} (hm : w.heap[Bm]? = some (.map es c)) : b ≠ Bm := by
  rintro rfl
  obtain ⟨o, _, _, hc⟩ := h.2 hn
  have hl := h.len
  have h0 : 0 < l.length := by omega
  have hx := hs l[0]
  obtain ⟨u, hu⟩ : ∃ u, (enc l[0])[0]? = some u := ⟨(enc l[0])[0]'(by omega), List.getElem?_eq_getElem _⟩
  have := hc 0 h0 0 u hu
  simp [World.cell?, hm] at this
theorem Told.turn {W W' : World} {Bt Bm : Nat} {T : Int → SpD} {nb : Nat} {X : Int → List Span} {S : List Int} (h : Told W Bt Bm T nb X S) (hn : 0 < nb) {a : Int} {d : SpD} (hd : Sl encR 2 W d.b d.A nb (X a)) (hg : W.grownBy W' (some Bm)) (hm : KMap (Value.int .i64) okI W' Bm (updK (toldM T nb S) a (.slice d.A nb d.c))) :
    Told W' Bt Bm (fun q => if q = a then d else T q) nb X (S ++ [a]) := by
  obtain ⟨es, clock, h1, _⟩ := h.m
  have hbt : Bt ≠ Bm := by
    rintro rfl
    have := h.t
    unfold Blk at this
    rw [h1] at this
    cases this
  refine ⟨h.t.grown hg (fun e => hbt (by injection e)), by rw [told_snoc]; exact hm, fun q hq => ?_⟩
  by_cases hqa : q = a
  · subst hqa
    simp only [if_true]
    exact hd.grown hg (fun _ e => (hd.off_map hn encR_len (by omega) h1) (by injection e))
  · simp only [if_neg hqa]
    have hqS : q ∈ S := by
      rcases List.mem_append.1 hq with h2 | h2
      · exact h2
      · exact absurd (List.mem_singleton.1 h2) hqa
    exact (h.r q hqS).grown hg (fun _ e => ((h.r q hqS).off_map hn encR_len (by omega) h1) (by injection e))

set_option maxRecDepth 100000 in
set_option maxHeartbeats 1000000 in
theorem sam2_any (B10 B14 B16 Bt Bm : Nat) (T : Int → SpD) (nb : Nat) (X : Int → List Span) (S : List Int) (k : Nat) (a b : Int) (w : World) (hT : Told w Bt Bm T nb X S) (hk : k < nb) (hnb : nb ≤ 8) (ha : a ∈ S) (hb : b ∈ S) (hXa : (X a).length = nb) (hXb : (X b).length = nb)
    (oka : okI a) (okb : okI b) (h10 : Blk w B10 48 #[.func (.func 30) #[] #[.pointer (some ⟨Bt, 0, none⟩)]]) (h14 : Blk w B14 3 #[.int .i64 a]) (h16 : Blk w B16 3 #[.int .i64 b]) :
    Calls Tryd.prog 32 #[.int .i64 k, .pointer (some ⟨B10, 0, none⟩), .pointer (some ⟨B14, 0, none⟩), .pointer (some ⟨B16, 0, none⟩)] w fun e w' => e = .returned (.bool (tellsT (spanAt (X a) k) (spanAt (X b) k))) ∧ Below w.heap.size w w' := by
  have c10 := h10.cell 0
  have c14 := h14.cell 0
  have c16 := h16.cell 0
  have hcon := apart_any Bt Bm T nb X S k a b w hT hk hnb ha hb hXa hXb oka okb
  have HC := Lib.hid hcon
  clear hcon hT h10 h14 h16
  go_enter Tryd.func32, Tryd.ntmps32
  go_wp2_with (go_at_call 30; refine HC.out.mono ?_; rintro e w1 ⟨rfl, hb1⟩)
  go_ret
  exact ⟨rfl, hb1⟩

/-- where things lie in Samples -/
structure SamEnv (w W : World) (Ab Am Ao : Option Addr) (nb cb nm cm no co : Nat) : Prop where
  low : Below w.heap.size w W
  n : Blk W w.heap.size 25 #[.slice Ab nb cb, .slice Am nm cm]
  s : Blk W (w.heap.size + 1) 22 #[.slice Ao no co]
  r4 : Blk W (w.heap.size + 2) 22 #[.slice none 0 0]
  r5 : Blk W (w.heap.size + 3) 30 #[.int .i64 0]
section
variable {w W W' : World} {Ab Am Ao : Option Addr} {nb cb nm cm no co : Nat}
theorem SamEnv.below (h : SamEnv w W Ab Am Ao nb cb nm cm no co) (hb : Below W.heap.size W W') : SamEnv w W' Ab Am Ao nb cb nm cm no co :=
  ⟨h.low.trans (hb.mono h.low.size), h.n.below hb h.n.lt, h.s.below hb h.s.lt, h.r4.below hb h.r4.lt, h.r5.below hb h.r5.lt⟩
theorem SamEnv.grown (h : SamEnv w W Ab Am Ao nb cb nm cm no co) {g : Nat} (hg : W.grownBy W' (some g)) (hz : w.heap.size + 3 < g) : SamEnv w W' Ab Am Ao nb cb nm cm no co :=
  ⟨h.low.grown hg h.low.size (fun j e => by cases e; omega), h.n.grown hg (fun e => by injection e; omega), h.s.grown hg (fun e => by injection e; omega), h.r4.grown hg (fun e => by injection e; omega), h.r5.grown hg (fun e => by injection e; omega)⟩
theorem SamEnv.new (w : World) : SamEnv w ((((w.alloc (.cells #[.slice Ab nb cb, .slice Am nm cm] 25)).alloc (.cells #[.slice Ao no co] 22)).alloc (.cells #[.slice none 0 0] 22)).alloc (.cells #[.int .i64 0] 30)) Ab Am Ao nb cb nm cm no co := by
  have h0 : Below w.heap.size w (w.alloc (.cells #[.slice Ab nb cb, .slice Am nm cm] 25)) := (Below.refl _ w).alloc (Nat.le_refl _) _
  have b0 := Blk.new w 25 #[.slice Ab nb cb, .slice Am nm cm]
  have b1 := Blk.new (w.alloc (.cells #[.slice Ab nb cb, .slice Am nm cm] 25)) 22 #[.slice Ao no co]
  have b2 := Blk.new ((w.alloc (.cells #[.slice Ab nb cb, .slice Am nm cm] 25)).alloc (.cells #[.slice Ao no co] 22)) 22 #[.slice none 0 0]
  have b3 := Blk.new (((w.alloc (.cells #[.slice Ab nb cb, .slice Am nm cm] 25)).alloc (.cells #[.slice Ao no co] 22)).alloc (.cells #[.slice none 0 0] 22)) 30 #[.int .i64 0]
  simp only [World.size_alloc] at b1 b2 b3
  exact ⟨((h0.alloc (by simp) _).alloc (by simp; omega) _).alloc (by simp; omega) _, ((b0.alloc _).alloc _).alloc _, (b1.alloc _).alloc _, b2.alloc _, b3⟩
end

def SamPost (bs : List Int) (ms : List Mv) (l : List Int) (w : World) (e : Ending) (w' : World) : Prop :=
  ((∃ xs A c, samplesT bs ms l = some xs ∧ e = .returned (.tuple #[.slice A xs.length c, .int .i64 0]) ∧ w'.ownsRow w.heap.size 3 1 (.slice A xs.length c) xs.length (xs.flatMap encI)) ∨ (samplesT bs ms l = none ∧ e = .returned (.tuple #[.slice none 0 0, .int .i64 3]))) ∧ Below w.heap.size w w'

def markD (D : Nat) : Deferred := { target := .collected D, args := #[] }
/-- the marks of ranges that are over -/
structure Marks (B : Nat) (W : World) (ds : List Nat) : Prop where
  nd : ds.Nodup
  at_ : ∀ D ∈ ds, B ≤ D ∧ W.heap[D]? = some (.deferred (some []))
theorem Marks.below {B : Nat} {W W' : World} {ds : List Nat} (h : Marks B W ds) (hb : Below W.heap.size W W') : Marks B W' ds :=
  ⟨h.nd, fun D hD => ⟨(h.at_ D hD).1, (hb.block D (Array.getElem?_eq_some_iff.1 (h.at_ D hD).2).1).trans (h.at_ D hD).2⟩⟩
theorem Marks.more {B : Nat} {W : World} {ds : List Nat} {D : Nat} (h : Marks B W ds) (hD : ∀ d ∈ ds, d < D) (hB : B ≤ D) (hd : W.heap[D]? = some (.deferred (some []))) : Marks B W (D :: ds) :=
  ⟨List.nodup_cons.2 ⟨fun hm => Nat.lt_irrefl _ (hD D hm), h.nd⟩, fun d hd' => by
    rcases List.mem_cons.1 hd' with rfl | h2
    · exact ⟨hB, hd⟩
    · exact h.at_ d h2⟩
theorem leaves_marks {F : Fence} {n : Nat} {P : Program} {fn : Func} {tmps : Array Value} {R : Ending → World → Prop} {B : Nat} (Z : World → Prop)
    (hZ : ∀ (W : World) (D : Nat), Z W → B ≤ D → W.heap[D]? = some (.deferred (some [])) → Z (W.putObj D (.deferred none)))
    (hR : ∀ W, Z W → ∃ v, (results fn tmps).run P W = .ok v W ∧ R (.returned v) W) :
    ∀ (ds : List Nat) (W : World), Marks B W ds → Z W → LeavesInM F n P fn tmps R (ds.map markD) .returning W
  | [], W, _, hz => hR W hz
  | D :: ds, W, hm, hz => by
    have h1 := hm.at_ D (List.mem_cons_self ..)
    refine ⟨by simp, .inl ⟨D, _, rfl, run_takeDeferred h1.2, leaves_marks Z hZ hR ds _ ⟨(List.nodup_cons.1 hm.nd).2, fun d hd => ?_⟩ (hZ W D hz h1.1 h1.2)⟩⟩
    have h2 := hm.at_ d (List.mem_cons_of_mem _ hd)
    refine ⟨h2.1, ?_⟩
    rw [World.putObj_heap_other (by rintro rfl; exact (List.nodup_cons.1 hm.nd).1 hd)]
    exact h2.2

theorem Ks.putRec {W : World} {l : Nat} {o o' : Obj} (h : W.heap[l]? = some o) (hr : isRec o = true) : Ks W (W.putObj l o') :=
  ⟨by simp, fun k cs t f hk => by
    by_cases hkl : k = l
    · subst hkl
      rw [hk] at h
      injection h with h
      subst h
      cases hr
    · exact (World.putObj_heap_other hkl).trans hk⟩
/-- the first list that tells all apart has been found, and is the result -/
structure SamHit (bs : List Int) (ms : List Mv) (l : List Int) (w : World) (nb many B3 B2 : Nat) (ds : List Nat) (W : World) : Prop where
  hit : ∃ (pre rest : List (List Int)) (x : HdL), choT nb many 0 = pre ++ x.l :: rest ∧ (∀ y ∈ pre, apartT (l.map fun s => reachT bs ms [s]) y = false) ∧ apartT (l.map fun s => reachT bs ms [s]) x.l = true ∧ giveL B3 x W ∧ Blk W (w.heap.size + 1 + 1) 22 #[.slice x.A x.n x.c]
  r5 : Blk W (w.heap.size + 1 + 1 + 1) 30 #[.int .i64 0]
  low : Below w.heap.size w W
  mks : Marks B2 W ds
theorem giveL_rec {B : Nat} {x : HdL} {X Y : World} {row : Option Nat} (h : giveL B x X) (hg : X.grownBy Y row) (hr : ∀ r, row = some r → ∃ o, X.heap[r]? = some o ∧ isRec o = true) : giveL B x Y := by
  refine giveL_ks B x X Y ⟨hg.size, fun k cs t f hk => (hg.block k (Array.getElem?_eq_some_iff.1 hk).1 fun e => ?_).trans hk⟩ h
  obtain ⟨o, h1, h2⟩ := hr k e.symm
  rw [hk] at h1
  injection h1 with h1
  subst h1
  cases h2
theorem SamHit.rec_ {bs : List Int} {ms : List Mv} {l : List Int} {w : World} {nb many B3 B2 : Nat} {ds : List Nat} {X Y : World} {row : Option Nat} (h : SamHit bs ms l w nb many B3 B2 ds X) (hg : X.grownBy Y row) (hds : ∀ D ∈ ds, some D ≠ row)
    (hr : ∀ r, row = some r → w.heap.size ≤ r ∧ ∃ o, X.heap[r]? = some o ∧ isRec o = true) : SamHit bs ms l w nb many B3 B2 ds Y := by
  have hcell : ∀ {k : Nat} {t : TypeId} {cs : Array Value}, Blk X k t cs → Blk Y k t cs := fun {k t cs} hb => hb.grown hg fun e => by
    obtain ⟨_, o, h1, h2⟩ := hr k e.symm
    unfold Blk at hb
    rw [hb] at h1
    injection h1 with h1
    subst h1
    cases h2
  obtain ⟨pre, rest, x, h1, h2, h3, h4, h5⟩ := h.hit
  refine ⟨⟨pre, rest, x, h1, h2, h3, giveL_rec h4 hg fun r e => (hr r e).2, hcell h5⟩, hcell h.r5, h.low.grown hg h.low.size (fun j e => (hr j e).1), h.mks.nd, fun D hD => ⟨(h.mks.at_ D hD).1, ?_⟩⟩
  have h6 := (h.mks.at_ D hD).2
  exact (hg.block D (Array.getElem?_eq_some_iff.1 h6).1 (hds D hD)).trans h6

theorem KeepsRec.cell {W : World} {g i : Nat} {t : TypeId} {cs : Array Value} (h : Blk W g t cs) (v : Value) : KeepsRec W (W.setCell ⟨g, i, none⟩ v) :=
  ⟨by simp, fun k o hk hr => by
    by_cases hkg : k = g
    · subst hkg
      unfold Blk at h
      rw [h] at hk
      injection hk with hk
      subst hk
      cases hr
    · rw [Below.heap_setCell _ _ _ _ hkg]; exact hk⟩
theorem KeepsRec.below {A B : World} (h : Below A.heap.size A B) : KeepsRec A B := ⟨h.size, fun k o hk _ => (h.block k (Array.getElem?_eq_some_iff.1 hk).1).trans hk⟩
end Go.Proofs.YtkphgdkjjklajaaDoor
