/-
  Whether a sample tells two suspects apart; whether one of some samples does (slices.ContainsFunc with a predicate that lays blocks).
-/
import Derived.Test.YtkphgdkjjklajaaDoorTrCho
set_option linter.unusedVariables false
set_option linter.unusedSimpArgs false
namespace Go.Proofs.YtkphgdkjjklajaaDoor
open Go.RowKit Go.Shelf Go.Sort

set_option maxRecDepth 100000 in
set_option maxHeartbeats 1000000 in
/-- slices.IndexFunc, ContainsFunc, whose predicate may lay blocks -/
theorem idxB_any (b n c : Nat) (A : Option Addr) (l : List Int) (g : Nat) (lb : Array Value) (p : Int → Bool) (w : World) (hl : Sl encI 1 w b A n l) (hn : n ≤ 1000000)
    (eg : ∀ args w, (callFunc g args).run Tryd.prog w = .ok (.enter g args) w)
    (hp : ∀ (W : World) (x : Int), Below w.heap.size w W → x ∈ l → Calls Tryd.prog g (#[.int .i64 x] ++ lb) W fun e W' => e = .returned (.bool (p x)) ∧ Below W.heap.size W W') :
    Calls Tryd.prog 36 #[.slice A n c, .func (.func g) #[] lb] w fun e w' => ∃ i : Int, e = .returned (.int .i64 i) ∧ decide (0 ≤ i) = l.any p ∧ Below w.heap.size w w' := by
  have HL := Lib.hid hl
  have HLN := Lib.hid hl.len
  have HP := Lib.hid hp
  clear hl hp
  go_enter Tryd.func36, Tryd.ntmps36
  go_wp2_with fail
  go_loopw [5, 8] (fun _ i wr => ∃ k : Nat, k ≤ n ∧ i = .int .i64 k ∧ (l.take k).any p = false ∧ Below w.heap.size w wr) (fun _ i _ => n - (intOf i).toNat)
  case atStart => exact ⟨0, by omega, rfl, rfl, Below.refl _ _⟩
  case round =>
    obtain ⟨k, hk, rfl, hno, hB⟩ := hrel
    have HNO := Lib.hid hno
    have HB := Lib.hid hB
    have hz := hB.size
    by_cases hlt : k < n
    · have hkl : k < l.length := by have := HLN.out; omega
      obtain ⟨o, rfl, hbz, s0⟩ := (HL.out.old hB).atI hkl
      have hcall := HP.out wr l[k] hB (List.getElem_mem hkl)
      have HTK := Lib.hid (show (l.take (k + 1)).any p = (p l[k] || false) from by rw [List.take_succ_eq_append_getElem hkl, List.any_append, hno]; simp)
      have HAN := Lib.hid (show p l[k] = true → l.any p = true from fun h => List.any_eq_true.2 ⟨_, List.getElem_mem hkl, h⟩)
      generalize l[k] = x at s0 hcall HTK HAN
      have i0 : (0 : Int) ≤ (k : Int) := by omega
      have i1 : (k : Int) < (n : Int) := by omega
      cases hq : p x with
      | true =>
        rw [hq] at hcall
        have HQ := Lib.hid (HAN.out hq)
        have HC := Lib.hid hcall
        clear hno hB hq hcall
        go_wp2_with (go_at_fn g; refine HC.out.mono ?_; rintro e w1 ⟨rfl, hb1⟩)
        go_ret
        exact ⟨k, rfl, by rw [HQ.out]; simp, HB.out.trans (hb1.mono hz)⟩
      | false =>
        rw [hq] at hcall HTK
        have HC := Lib.hid hcall
        clear hno hB hq hcall
        go_wp2_with (go_at_fn g; refine HC.out.mono ?_; rintro e w1 ⟨rfl, hb1⟩; have HB1 := Lib.hid hb1; clear hb1)
        go_roundw
        case rel => exact ⟨k + 1, by omega, by go_num, HTK.out, HB.out.trans (HB1.out.mono hz)⟩
        case measure => simp [intOf]; omega
    · obtain rfl : k = n := by omega
      clear hno hB
      go_wp2_with fail
      go_ret
      have h := HNO.out
      rw [HLN.out, List.take_length] at h
      exact ⟨-1, rfl, by rw [h]; decide, HB.out⟩
theorem hasB_any (b n c : Nat) (A : Option Addr) (l : List Int) (g : Nat) (lb : Array Value) (p : Int → Bool) (w : World) (hl : Sl encI 1 w b A n l) (hn : n ≤ 1000000)
    (eg : ∀ args w, (callFunc g args).run Tryd.prog w = .ok (.enter g args) w)
    (hp : ∀ (W : World) (x : Int), Below w.heap.size w W → x ∈ l → Calls Tryd.prog g (#[.int .i64 x] ++ lb) W fun e W' => e = .returned (.bool (p x)) ∧ Below W.heap.size W W') :
    Calls Tryd.prog 17 #[.slice A n c, .func (.func g) #[] lb] w fun e w' => e = .returned (.bool (l.any p)) ∧ Below w.heap.size w w' := by
  have hcon := idxB_any b n c A l g lb p w hl hn eg hp
  have HC := Lib.hid hcon
  clear hcon hl hp
  go_enter Tryd.func17, Tryd.ntmps17
  go_wp2_with (go_at_call 36; refine HC.out.mono ?_; rintro e w1 ⟨i, rfl, hi, hb⟩; have HI := Lib.hid hi; clear hi)
  go_ret
  exact ⟨by show Ending.returned (.bool (decide (0 ≤ i))) = _; rw [HI.out], hb⟩

/-- what a map holds of each suspect: where the spans lie -/
structure SpD where
  A : Option Addr
  b : Nat
  c : Nat
def toldM (T : Int → SpD) (nb : Nat) (S : List Int) : Int → Option Value := fun a => if a ∈ S then some (.slice (T a).A nb (T a).c) else none
structure Told (W : World) (Bt Bm : Nat) (T : Int → SpD) (nb : Nat) (X : Int → List Span) (S : List Int) : Prop where
  t : Blk W Bt 64 #[.map (some Bm)]
  m : KMap (Value.int .i64) okI W Bm (toldM T nb S)
  r : ∀ a ∈ S, Sl encR 2 W (T a).b (T a).A nb (X a)
section
variable {W W' : World} {Bt Bm : Nat} {T : Int → SpD} {nb : Nat} {X : Int → List Span} {S : List Int}
theorem Told.below (h : Told W Bt Bm T nb X S) (hb : Below W.heap.size W W') : Told W' Bt Bm T nb X S :=
  ⟨h.t.below hb h.t.lt, h.m.keep (hb.block _ h.m.lt), fun a ha => (h.r a ha).old hb⟩
theorem Told.drew (h : Told W Bt Bm T nb X S) : Told W.drew Bt Bm T nb X S := h.below (Below.refl _ W).drew
/-- the loads of a look-up -/
theorem Told.at_ (h : Told W Bt Bm T nb X S) {a : Int} (ha : a ∈ S) {k : Nat} (hk : k < nb) (hX : (X a).length = nb) :
    ∃ o, (T a).A = some ⟨(T a).b, o, none⟩ ∧ W.cell? ⟨(T a).b, o + k * 2, none⟩ = some (.int .i64 (spanAt (X a) k).lo) ∧ W.cell? ⟨(T a).b, o + k * 2 + 1, none⟩ = some (.int .i64 (spanAt (X a) k).hi) := by
  obtain ⟨o, h1, h2, h3, h4⟩ := (h.r a ha).atR (k := k) (by omega)
  have e : spanAt (X a) k = (X a)[k]'(by omega) := by
    unfold spanAt
    rw [Int.toNat_natCast, List.getD_eq_getElem?_getD, List.getElem?_eq_getElem (by omega)]; rfl
  rw [e]
  exact ⟨o, h1, h3, h4⟩
end

theorem hMS : Tryd.prog.underlying 64 = some (.map 3 34) := by kernel_rfl
theorem zeroSp (w : World) : (zeroValue 34).run Tryd.prog w = .ok (.slice none 0 0) w := by kernel_rfl

set_option maxRecDepth 100000 in
set_option maxHeartbeats 2000000 in
theorem apart_any (Bt Bm : Nat) (T : Int → SpD) (nb : Nat) (X : Int → List Span) (S : List Int) (k : Nat) (a b : Int) (w : World) (hT : Told w Bt Bm T nb X S) (hk : k < nb) (hnb : nb ≤ 8) (ha : a ∈ S) (hb : b ∈ S) (hXa : (X a).length = nb) (hXb : (X b).length = nb)
    (oka : okI a) (okb : okI b) :
    Calls Tryd.prog 30 #[.int .i64 k, .int .i64 a, .int .i64 b, .pointer (some ⟨Bt, 0, none⟩)] w fun e w' => e = .returned (.bool (tellsT (spanAt (X a) k) (spanAt (X b) k))) ∧ Below w.heap.size w w' := by
  obtain ⟨o1, e1, x0, x1⟩ := hT.at_ ha hk hXa
  obtain ⟨o2, e2, y0, y1⟩ := hT.at_ hb hk hXb
  have HT := Lib.hid hT
  have HE1 := Lib.hid e1
  have HE2 := Lib.hid e2
  have hz1 : (T a).b < w.heap.size := (hT.r a ha).lt (by omega)
  have hz2 : (T b).b < w.heap.size := (hT.r b hb).lt (by omega)
  have i0 : (0 : Int) ≤ (k : Int) := by omega
  have i1 : (k : Int) < (nb : Int) := by omega
  clear hT e1 e2 hXa hXb
  generalize spanAt (X a) k = x at x0 x1 ⊢
  generalize spanAt (X b) k = y at y0 y1 ⊢
  have HX0 := Lib.hid x0
  have HX1 := Lib.hid x1
  have hF : ∀ W, Below w.heap.size w W → W.cell? ⟨Bt, 0, none⟩ = some (.map (some Bm)) ∧ (Instr.lookup 64 (.map (some Bm)) (.int .i64 a) false).run Tryd.prog W = .ok (.slice (some ⟨(T a).b, o1, none⟩) nb (T a).c) W ∧ (Instr.lookup 64 (.map (some Bm)) (.int .i64 b) false).run Tryd.prog W = .ok (.slice (some ⟨(T b).b, o2, none⟩) nb (T b).c) W ∧
      W.cell? ⟨(T a).b, o1 + k * 2, none⟩ = some (.int .i64 x.lo) ∧ W.cell? ⟨(T a).b, o1 + k * 2 + 1, none⟩ = some (.int .i64 x.hi) ∧ W.cell? ⟨(T b).b, o2 + k * 2, none⟩ = some (.int .i64 y.lo) ∧ W.cell? ⟨(T b).b, o2 + k * 2 + 1, none⟩ = some (.int .i64 y.hi) := fun W hW =>
    have h := HT.out.below hW
    ⟨h.t.cell 0, by rw [run_lookupK kkI Tryd.underlying64 zeroSp h.m a oka]; simp [toldM, ha, HE1.out], by rw [run_lookupK kkI Tryd.underlying64 zeroSp h.m b okb]; simp [toldM, hb, HE2.out],
      (hW.cell (p := ⟨(T a).b, o1 + k * 2, none⟩) hz1).trans x0, (hW.cell (p := ⟨(T a).b, o1 + k * 2 + 1, none⟩) hz1).trans x1, (hW.cell (p := ⟨(T b).b, o2 + k * 2, none⟩) hz2).trans y0, (hW.cell (p := ⟨(T b).b, o2 + k * 2 + 1, none⟩) hz2).trans y1⟩
  have HF := Lib.hid hF
  have HB0 := Lib.hid ((Blk.new w.drew 40 #[.int .i64 0, .int .i64 0]).alloc (.cells #[.int .i64 0, .int .i64 0] 40))
  have hb1 := Blk.new (w.drew.alloc (.cells #[.int .i64 0, .int .i64 0] 40)) 40 #[.int .i64 0, .int .i64 0]
  rw [World.size_alloc] at hb1
  have HB1 := Lib.hid hb1
  have HV := Lib.hid (((show Below w.heap.size w w.drew from (Below.refl _ w).drew).alloc (Nat.le_refl _) (.cells #[.int .i64 0, .int .i64 0] 40)).alloc (by simp) (.cells #[.int .i64 0, .int .i64 0] 40))
  have hM : Below w.heap.size w w.drew := (Below.refl _ w).drew
  clear hF hb1 x0 x1 y0 y1
  have HR := Lib.hid (show tellsT x y = ((decide (0 < x.lo) && (y.hi == 0)) || (decide (0 < y.lo) && (x.hi == 0))) from by unfold tellsT; rw [Bool.eq_iff_iff]; simp)
  go_enter Tryd.func30, Tryd.ntmps30
  go_wp2_with fail
  rename_i Q K aK
  have HEND := Lib.hid (show ∀ (B8 B9 : Nat) (V : World), Below w.heap.size w V → V.cell? ⟨B8, 0, none⟩ = some (.int .i64 x.lo) → V.cell? ⟨B8, 1, none⟩ = some (.int .i64 x.hi) → V.cell? ⟨B9, 0, none⟩ = some (.int .i64 y.lo) → V.cell? ⟨B9, 1, none⟩ = some (.int .i64 y.hi) →
      K { tmps := #[.int .i64 k, .int .i64 a, .int .i64 b, .pointer (some ⟨Bt, 0, none⟩), undef, undef, undef, .bool false, .pointer (some ⟨B8, 0, none⟩), .pointer (some ⟨B9, 0, none⟩), .map (some Bm), .int .i64 a, .slice (some ⟨(T a).b, o1, none⟩) nb (T a).c, .int .i64 k, .pointer (some ⟨(T a).b, o1 + k * 2, none⟩),
        .agg #[.int .i64 x.lo, .int .i64 x.hi], .map (some Bm), .int .i64 b, .slice (some ⟨(T b).b, o2, none⟩) nb (T b).c, .int .i64 k, .pointer (some ⟨(T b).b, o2 + k * 2, none⟩), .agg #[.int .i64 y.lo, .int .i64 y.hi], undef, undef, undef, undef, undef, undef, undef, undef, undef, undef, undef, undef, undef, undef, undef, undef, undef, undef], defers := [] } V from by
    intro B8 B9 V hV p0 p1 q0 q1
    refine aK _ _ ?_
    clear aK HF HB0 HB1 HV hM HX0 HX1 HT HE1 HE2
    have HVV := Lib.hid hV
    clear hV
    cases hb1 : decide (0 < x.lo)
    · cases hb3 : decide (0 < y.lo)
      · rw [hb1, hb3] at HR
        go_wp2_with fail
        go_ret
        exact ⟨by rw [HR.out]; rfl, HVV.out⟩
      · cases hb4 : (x.hi == 0)
        all_goals
          rw [hb1, hb3, hb4] at HR
          go_wp2_with fail
          go_ret
          exact ⟨by rw [HR.out]; rfl, HVV.out⟩
    · cases hb2 : (y.hi == 0)
      · cases hb3 : decide (0 < y.lo)
        · rw [hb1, hb2, hb3] at HR
          go_wp2_with fail
          go_ret
          exact ⟨by rw [HR.out]; rfl, HVV.out⟩
        · cases hb4 : (x.hi == 0)
          all_goals
            rw [hb1, hb2, hb3, hb4] at HR
            go_wp2_with fail
            go_ret
            exact ⟨by rw [HR.out]; rfl, HVV.out⟩
      · rw [hb1, hb2] at HR
        go_wp2_with fail
        go_ret
        exact ⟨by rw [HR.out]; rfl, HVV.out⟩)
  clear aK
  refine wp_region_K2 [0, 2, 5, 6, 8, 11] [] (fun W => W.cell? ⟨Bt, 0, none⟩ = some (.map (some Bm)) ∧ (Instr.lookup 64 (.map (some Bm)) (.int .i64 a) false).run Tryd.prog W = .ok (.slice (some ⟨(T a).b, o1, none⟩) nb (T a).c) W ∧ (Instr.lookup 64 (.map (some Bm)) (.int .i64 b) false).run Tryd.prog W = .ok (.slice (some ⟨(T b).b, o2, none⟩) nb (T b).c) W ∧ W.cell? ⟨(T a).b, o1 + k * 2, none⟩ = some (.int .i64 x.lo) ∧ W.cell? ⟨(T a).b, o1 + k * 2 + 1, none⟩ = some (.int .i64 x.hi) ∧ W.cell? ⟨(T b).b, o2 + k * 2, none⟩ = some (.int .i64 y.lo) ∧ W.cell? ⟨(T b).b, o2 + k * 2 + 1, none⟩ = some (.int .i64 y.hi)) (fun _ => True) rfl (by kernel_rfl) (HF.out _ hM) (trivial) (fun hF0 hG0 => ?_)
  (refine wpAnyK_loadL Keep2.refl (i := 0) (v := ?_) rfl (Keep2.left (i := 0) (by rfl)) (by kernel_rfl) (by kernel_rfl) (by kernel_rfl) (fun _ _ _ h => h) hF0 (by rfl) ?_ ?_; rotate_left 1; focus (intro w hFw; (try dsimp only at hFw); go_split_ands; go_simp; try with_reducible rfl))
  try simp only [Act.put, List.setIfInBounds_toArray, List.set_cons_zero, List.set_cons_succ]
  (refine wpAnyK_takeL Keep2.refl (i := 1) (v := ?_) rfl (by kernel_rfl) (by kernel_rfl) (by kernel_rfl) (fun _ _ _ h => h) (by rfl) ?_ ?_; rotate_left 1; focus (intro w; go_simp; try with_reducible rfl))
  try simp only [Act.put, List.setIfInBounds_toArray, List.set_cons_zero, List.set_cons_succ]
  (refine wpAnyK_loadL Keep2.refl (i := 2) (v := ?_) rfl (Keep2.left (i := 2) (by rfl)) (by kernel_rfl) (by kernel_rfl) (by kernel_rfl) (fun _ _ _ h => h) hF0 (by rfl) ?_ ?_; rotate_left 1; focus (intro w hFw; (try dsimp only at hFw); go_split_ands; go_simp; try with_reducible rfl))
  try simp only [Act.put, List.setIfInBounds_toArray, List.set_cons_zero, List.set_cons_succ]
  (refine wpAnyK_takeL Keep2.refl (i := 3) (v := ?_) rfl (by kernel_rfl) (by kernel_rfl) (by kernel_rfl) (fun _ _ _ h => h) (by rfl) ?_ ?_; rotate_left 1; focus (intro w; go_simp; try with_reducible rfl))
  try simp only [Act.put, List.setIfInBounds_toArray, List.set_cons_zero, List.set_cons_succ]
  (refine wpAnyK_takeL Keep2.refl (i := 4) (v := ?_) rfl (by kernel_rfl) (by kernel_rfl) (by kernel_rfl) (fun _ _ _ h => h) (by rfl) ?_ ?_; rotate_left 1; focus (intro w; go_simp; try with_reducible rfl))
  try simp only [Act.put, List.setIfInBounds_toArray, List.set_cons_zero, List.set_cons_succ]
  (refine wpAnyK_loadL Keep2.refl (i := 5) (v := ?_) rfl (Keep2.left (i := 5) (by rfl)) (by kernel_rfl) (by kernel_rfl) (by kernel_rfl) (fun _ _ _ h => h) hF0 (by rfl) ?_ ?_; rotate_left 1; focus (intro w hFw; (try dsimp only at hFw); go_split_ands; go_simp; try with_reducible rfl))
  try simp only [Act.put, List.setIfInBounds_toArray, List.set_cons_zero, List.set_cons_succ]
  (refine wpAnyK_loadL Keep2.refl (i := 6) (v := ?_) rfl (Keep2.left (i := 6) (by rfl)) (by kernel_rfl) (by kernel_rfl) (by kernel_rfl) (fun _ _ _ h => h) hF0 (by rfl) ?_ ?_; rotate_left 1; focus (intro w hFw; (try dsimp only at hFw); go_split_ands; go_simp; try with_reducible rfl))
  try simp only [Act.put, List.setIfInBounds_toArray, List.set_cons_zero, List.set_cons_succ]
  (refine wpAnyK_takeL Keep2.refl (i := 7) (v := ?_) rfl (by kernel_rfl) (by kernel_rfl) (by kernel_rfl) (fun _ _ _ h => h) (by rfl) ?_ ?_; rotate_left 1; focus (intro w; go_simp; try with_reducible rfl))
  try simp only [Act.put, List.setIfInBounds_toArray, List.set_cons_zero, List.set_cons_succ]
  (refine wpAnyK_loadL Keep2.refl (i := 8) (v := ?_) rfl (Keep2.left (i := 8) (by rfl)) (by kernel_rfl) (by kernel_rfl) (by kernel_rfl) (fun _ _ _ h => h) hF0 (by rfl) ?_ ?_; rotate_left 1; focus (intro w hFw; (try dsimp only at hFw); go_split_ands; go_simp; try with_reducible rfl))
  try simp only [Act.put, List.setIfInBounds_toArray, List.set_cons_zero, List.set_cons_succ]
  (refine wpAnyK_takeL Keep2.refl (i := 9) (v := ?_) rfl (by kernel_rfl) (by kernel_rfl) (by kernel_rfl) (fun _ _ _ h => h) (by rfl) ?_ ?_; rotate_left 1; focus (intro w; go_simp; try with_reducible rfl))
  try simp only [Act.put, List.setIfInBounds_toArray, List.set_cons_zero, List.set_cons_succ]
  (refine wpAnyK_takeL Keep2.refl (i := 10) (v := ?_) rfl (by kernel_rfl) (by kernel_rfl) (by kernel_rfl) (fun _ _ _ h => h) (by rfl) ?_ ?_; rotate_left 1; focus (intro w; go_simp; try with_reducible rfl))
  try simp only [Act.put, List.setIfInBounds_toArray, List.set_cons_zero, List.set_cons_succ]
  (refine wpAnyK_loadL Keep2.refl (i := 11) (v := ?_) rfl (Keep2.left (i := 11) (by rfl)) (by kernel_rfl) (by kernel_rfl) (by kernel_rfl) (fun _ _ _ h => h) hF0 (by rfl) ?_ ?_; rotate_left 1; focus (intro w hFw; (try dsimp only at hFw); go_split_ands; go_simp; try with_reducible rfl))
  try simp only [Act.put, List.setIfInBounds_toArray, List.set_cons_zero, List.set_cons_succ]
  refine wpAnyK_all (rs := [12, 13]) (by kernel_rfl) (by simp) ?_
  refine List.forall_mem_cons.2 ⟨?_, List.forall_mem_cons.2 ⟨?_, fun _ h => absurd h List.not_mem_nil⟩⟩
  · refine wpOp_of rfl (by rfl) (fun K hK => ?_)
    go_simp
    (have hM := hM.alloc hM.size (.cells #[.int .i64 0, .int .i64 0] 40))
    (refine hK _ _ ⟨⟨fun _ _ => HF.out _ hM, fun h => absurd h (by decide)⟩, ?_⟩; clear hK K)
    (refine wpAnyK_with (F := fun W => W.cell? ⟨Bt, 0, none⟩ = some (.map (some Bm)) ∧ (Instr.lookup 64 (.map (some Bm)) (.int .i64 a) false).run Tryd.prog W = .ok (.slice (some ⟨(T a).b, o1, none⟩) nb (T a).c) W ∧ (Instr.lookup 64 (.map (some Bm)) (.int .i64 b) false).run Tryd.prog W = .ok (.slice (some ⟨(T b).b, o2, none⟩) nb (T b).c) W ∧ W.cell? ⟨(T a).b, o1 + k * 2, none⟩ = some (.int .i64 x.lo) ∧ W.cell? ⟨(T a).b, o1 + k * 2 + 1, none⟩ = some (.int .i64 x.hi) ∧ W.cell? ⟨(T b).b, o2 + k * 2, none⟩ = some (.int .i64 y.lo) ∧ W.cell? ⟨(T b).b, o2 + k * 2 + 1, none⟩ = some (.int .i64 y.hi)) (HF.out _ hM) (fun hF1 => ?_); clear hF0)
    try simp only [Act.put, List.setIfInBounds_toArray, List.set_cons_zero, List.set_cons_succ]
    refine wpAnyK_step (i := 13) rfl (by kernel_rfl) (by rfl) (fun K hK => ?_)
    go_simp
    (have hM := hM.alloc hM.size (.cells #[.int .i64 0, .int .i64 0] 40))
    (refine hK _ _ (⟨fun _ _ => HF.out _ hM, fun h => absurd h (by decide)⟩) ?_; clear hK K)
    (refine wpAnyK_with (F := fun W => W.cell? ⟨Bt, 0, none⟩ = some (.map (some Bm)) ∧ (Instr.lookup 64 (.map (some Bm)) (.int .i64 a) false).run Tryd.prog W = .ok (.slice (some ⟨(T a).b, o1, none⟩) nb (T a).c) W ∧ (Instr.lookup 64 (.map (some Bm)) (.int .i64 b) false).run Tryd.prog W = .ok (.slice (some ⟨(T b).b, o2, none⟩) nb (T b).c) W ∧ W.cell? ⟨(T a).b, o1 + k * 2, none⟩ = some (.int .i64 x.lo) ∧ W.cell? ⟨(T a).b, o1 + k * 2 + 1, none⟩ = some (.int .i64 x.hi) ∧ W.cell? ⟨(T b).b, o2 + k * 2, none⟩ = some (.int .i64 y.lo) ∧ W.cell? ⟨(T b).b, o2 + k * 2 + 1, none⟩ = some (.int .i64 y.hi)) (HF.out _ hM) (fun hF2 => ?_); clear hF1)
    try simp only [Act.put, List.setIfInBounds_toArray, List.set_cons_zero, List.set_cons_succ]
    refine wpAnyK_step (i := 14) rfl (by kernel_rfl) (by rfl) (fun K hK => ?_)
    (first | (refine wp_store_row 40 (.tmp 8) (.tmp 15) rfl (w.heap.size) #[.int .i64 x.lo, .int .i64 x.hi] rfl rfl 40 _ HB0.out info_span2 rfl (by simp [Value.oneCell']) ?_; have K8 := Lib.hid (HB0.out.setRow #[.int .i64 x.lo, .int .i64 x.hi]); have K9 := Lib.hid (HB1.out.grown (grown_setRow _ w.heap.size #[.int .i64 x.lo, .int .i64 x.hi]) (fun e => by injection e with e; exact absurd e (Nat.succ_ne_self _))); have hM := HV.out.grown (grown_setRow _ (w.heap.size) #[.int .i64 x.lo, .int .i64 x.hi]) (by simp [World.setRow]; omega) (fun j e => by cases e; first | exact Nat.le_refl _ | exact Nat.le_succ _)) | (refine wp_store_row 40 (.tmp 8) (.tmp 15) rfl (w.heap.size + 1) #[.int .i64 x.lo, .int .i64 x.hi] rfl rfl 40 _ HB1.out info_span2 rfl (by simp [Value.oneCell']) ?_; have K8 := Lib.hid (HB1.out.setRow #[.int .i64 x.lo, .int .i64 x.hi]); have K9 := Lib.hid (HB0.out.grown (grown_setRow _ (w.heap.size + 1) #[.int .i64 x.lo, .int .i64 x.hi]) (fun e => by injection e with e; exact absurd e.symm (Nat.succ_ne_self _))); have hM := HV.out.grown (grown_setRow _ (w.heap.size + 1) #[.int .i64 x.lo, .int .i64 x.hi]) (by simp [World.setRow]; omega) (fun j e => by cases e; first | exact Nat.le_refl _ | exact Nat.le_succ _)))
    (refine hK _ _ (⟨fun _ _ => HF.out _ hM, fun h => absurd h (by decide)⟩) ?_; clear hK K)
    (refine wpAnyK_with (F := fun W => W.cell? ⟨Bt, 0, none⟩ = some (.map (some Bm)) ∧ (Instr.lookup 64 (.map (some Bm)) (.int .i64 a) false).run Tryd.prog W = .ok (.slice (some ⟨(T a).b, o1, none⟩) nb (T a).c) W ∧ (Instr.lookup 64 (.map (some Bm)) (.int .i64 b) false).run Tryd.prog W = .ok (.slice (some ⟨(T b).b, o2, none⟩) nb (T b).c) W ∧ W.cell? ⟨(T a).b, o1 + k * 2, none⟩ = some (.int .i64 x.lo) ∧ W.cell? ⟨(T a).b, o1 + k * 2 + 1, none⟩ = some (.int .i64 x.hi) ∧ W.cell? ⟨(T b).b, o2 + k * 2, none⟩ = some (.int .i64 y.lo) ∧ W.cell? ⟨(T b).b, o2 + k * 2 + 1, none⟩ = some (.int .i64 y.hi)) (HF.out _ hM) (fun hF3 => ?_); clear hF2)
    try simp only [Act.put, List.setIfInBounds_toArray, List.set_cons_zero, List.set_cons_succ]
    refine wpAnyK_step (i := 15) rfl (by kernel_rfl) (by rfl) (fun K hK => ?_)
    (first | (refine wp_store_row 40 (.tmp 9) (.tmp 21) rfl (w.heap.size + 1) #[.int .i64 y.lo, .int .i64 y.hi] rfl rfl 40 _ K9.out info_span2 rfl (by simp [Value.oneCell']) ?_; have L8 := Lib.hid (K8.out.grown (grown_setRow _ (w.heap.size + 1) #[.int .i64 y.lo, .int .i64 y.hi]) (fun e => by injection e with e; exact absurd e.symm (Nat.succ_ne_self _))); have L9 := Lib.hid (K9.out.setRow #[.int .i64 y.lo, .int .i64 y.hi]); have hM := hM.grown (grown_setRow _ (w.heap.size + 1) #[.int .i64 y.lo, .int .i64 y.hi]) (by simp [World.setRow]; omega) (fun j e => by cases e; first | exact Nat.le_refl _ | exact Nat.le_succ _)) | (refine wp_store_row 40 (.tmp 9) (.tmp 21) rfl (w.heap.size) #[.int .i64 y.lo, .int .i64 y.hi] rfl rfl 40 _ K9.out info_span2 rfl (by simp [Value.oneCell']) ?_; have L8 := Lib.hid (K8.out.grown (grown_setRow _ w.heap.size #[.int .i64 y.lo, .int .i64 y.hi]) (fun e => by injection e with e; exact absurd e (Nat.succ_ne_self _))); have L9 := Lib.hid (K9.out.setRow #[.int .i64 y.lo, .int .i64 y.hi]); have hM := hM.grown (grown_setRow _ (w.heap.size) #[.int .i64 y.lo, .int .i64 y.hi]) (by simp [World.setRow]; omega) (fun j e => by cases e; first | exact Nat.le_refl _ | exact Nat.le_succ _)))
    (refine hK _ _ (Keep2.no (by kernel_rfl) (by kernel_rfl)) ?_; clear hK K)
    try simp only [Act.put, List.setIfInBounds_toArray, List.set_cons_zero, List.set_cons_succ]
    refine wpAnyK_done (by kernel_rfl) ?_ _
    exact HEND.out _ _ _ hM (L8.out.cell 0) (L8.out.cell 1) (L9.out.cell 0) (L9.out.cell 1)
  · refine wpOp_of rfl (by rfl) (fun K hK => ?_)
    go_simp
    (have hM := hM.alloc hM.size (.cells #[.int .i64 0, .int .i64 0] 40))
    (refine hK _ _ ⟨⟨fun _ _ => HF.out _ hM, fun h => absurd h (by decide)⟩, ?_⟩; clear hK K)
    (refine wpAnyK_with (F := fun W => W.cell? ⟨Bt, 0, none⟩ = some (.map (some Bm)) ∧ (Instr.lookup 64 (.map (some Bm)) (.int .i64 a) false).run Tryd.prog W = .ok (.slice (some ⟨(T a).b, o1, none⟩) nb (T a).c) W ∧ (Instr.lookup 64 (.map (some Bm)) (.int .i64 b) false).run Tryd.prog W = .ok (.slice (some ⟨(T b).b, o2, none⟩) nb (T b).c) W ∧ W.cell? ⟨(T a).b, o1 + k * 2, none⟩ = some (.int .i64 x.lo) ∧ W.cell? ⟨(T a).b, o1 + k * 2 + 1, none⟩ = some (.int .i64 x.hi) ∧ W.cell? ⟨(T b).b, o2 + k * 2, none⟩ = some (.int .i64 y.lo) ∧ W.cell? ⟨(T b).b, o2 + k * 2 + 1, none⟩ = some (.int .i64 y.hi)) (HF.out _ hM) (fun hF5 => ?_); clear hF0)
    try simp only [Act.put, List.setIfInBounds_toArray, List.set_cons_zero, List.set_cons_succ]
    refine wpAnyK_step (i := 12) rfl (by kernel_rfl) (by rfl) (fun K hK => ?_)
    go_simp
    (have hM := hM.alloc hM.size (.cells #[.int .i64 0, .int .i64 0] 40))
    (refine hK _ _ (⟨fun _ _ => HF.out _ hM, fun h => absurd h (by decide)⟩) ?_; clear hK K)
    (refine wpAnyK_with (F := fun W => W.cell? ⟨Bt, 0, none⟩ = some (.map (some Bm)) ∧ (Instr.lookup 64 (.map (some Bm)) (.int .i64 a) false).run Tryd.prog W = .ok (.slice (some ⟨(T a).b, o1, none⟩) nb (T a).c) W ∧ (Instr.lookup 64 (.map (some Bm)) (.int .i64 b) false).run Tryd.prog W = .ok (.slice (some ⟨(T b).b, o2, none⟩) nb (T b).c) W ∧ W.cell? ⟨(T a).b, o1 + k * 2, none⟩ = some (.int .i64 x.lo) ∧ W.cell? ⟨(T a).b, o1 + k * 2 + 1, none⟩ = some (.int .i64 x.hi) ∧ W.cell? ⟨(T b).b, o2 + k * 2, none⟩ = some (.int .i64 y.lo) ∧ W.cell? ⟨(T b).b, o2 + k * 2 + 1, none⟩ = some (.int .i64 y.hi)) (HF.out _ hM) (fun hF6 => ?_); clear hF5)
    try simp only [Act.put, List.setIfInBounds_toArray, List.set_cons_zero, List.set_cons_succ]
    refine wpAnyK_step (i := 14) rfl (by kernel_rfl) (by rfl) (fun K hK => ?_)
    (first | (refine wp_store_row 40 (.tmp 8) (.tmp 15) rfl (w.heap.size) #[.int .i64 x.lo, .int .i64 x.hi] rfl rfl 40 _ HB0.out info_span2 rfl (by simp [Value.oneCell']) ?_; have K8 := Lib.hid (HB0.out.setRow #[.int .i64 x.lo, .int .i64 x.hi]); have K9 := Lib.hid (HB1.out.grown (grown_setRow _ w.heap.size #[.int .i64 x.lo, .int .i64 x.hi]) (fun e => by injection e with e; exact absurd e (Nat.succ_ne_self _))); have hM := HV.out.grown (grown_setRow _ (w.heap.size) #[.int .i64 x.lo, .int .i64 x.hi]) (by simp [World.setRow]; omega) (fun j e => by cases e; first | exact Nat.le_refl _ | exact Nat.le_succ _)) | (refine wp_store_row 40 (.tmp 8) (.tmp 15) rfl (w.heap.size + 1) #[.int .i64 x.lo, .int .i64 x.hi] rfl rfl 40 _ HB1.out info_span2 rfl (by simp [Value.oneCell']) ?_; have K8 := Lib.hid (HB1.out.setRow #[.int .i64 x.lo, .int .i64 x.hi]); have K9 := Lib.hid (HB0.out.grown (grown_setRow _ (w.heap.size + 1) #[.int .i64 x.lo, .int .i64 x.hi]) (fun e => by injection e with e; exact absurd e.symm (Nat.succ_ne_self _))); have hM := HV.out.grown (grown_setRow _ (w.heap.size + 1) #[.int .i64 x.lo, .int .i64 x.hi]) (by simp [World.setRow]; omega) (fun j e => by cases e; first | exact Nat.le_refl _ | exact Nat.le_succ _)))
    (refine hK _ _ (⟨fun _ _ => HF.out _ hM, fun h => absurd h (by decide)⟩) ?_; clear hK K)
    (refine wpAnyK_with (F := fun W => W.cell? ⟨Bt, 0, none⟩ = some (.map (some Bm)) ∧ (Instr.lookup 64 (.map (some Bm)) (.int .i64 a) false).run Tryd.prog W = .ok (.slice (some ⟨(T a).b, o1, none⟩) nb (T a).c) W ∧ (Instr.lookup 64 (.map (some Bm)) (.int .i64 b) false).run Tryd.prog W = .ok (.slice (some ⟨(T b).b, o2, none⟩) nb (T b).c) W ∧ W.cell? ⟨(T a).b, o1 + k * 2, none⟩ = some (.int .i64 x.lo) ∧ W.cell? ⟨(T a).b, o1 + k * 2 + 1, none⟩ = some (.int .i64 x.hi) ∧ W.cell? ⟨(T b).b, o2 + k * 2, none⟩ = some (.int .i64 y.lo) ∧ W.cell? ⟨(T b).b, o2 + k * 2 + 1, none⟩ = some (.int .i64 y.hi)) (HF.out _ hM) (fun hF7 => ?_); clear hF6)
    try simp only [Act.put, List.setIfInBounds_toArray, List.set_cons_zero, List.set_cons_succ]
    refine wpAnyK_step (i := 15) rfl (by kernel_rfl) (by rfl) (fun K hK => ?_)
    (first | (refine wp_store_row 40 (.tmp 9) (.tmp 21) rfl (w.heap.size + 1) #[.int .i64 y.lo, .int .i64 y.hi] rfl rfl 40 _ K9.out info_span2 rfl (by simp [Value.oneCell']) ?_; have L8 := Lib.hid (K8.out.grown (grown_setRow _ (w.heap.size + 1) #[.int .i64 y.lo, .int .i64 y.hi]) (fun e => by injection e with e; exact absurd e.symm (Nat.succ_ne_self _))); have L9 := Lib.hid (K9.out.setRow #[.int .i64 y.lo, .int .i64 y.hi]); have hM := hM.grown (grown_setRow _ (w.heap.size + 1) #[.int .i64 y.lo, .int .i64 y.hi]) (by simp [World.setRow]; omega) (fun j e => by cases e; first | exact Nat.le_refl _ | exact Nat.le_succ _)) | (refine wp_store_row 40 (.tmp 9) (.tmp 21) rfl (w.heap.size) #[.int .i64 y.lo, .int .i64 y.hi] rfl rfl 40 _ K9.out info_span2 rfl (by simp [Value.oneCell']) ?_; have L8 := Lib.hid (K8.out.grown (grown_setRow _ w.heap.size #[.int .i64 y.lo, .int .i64 y.hi]) (fun e => by injection e with e; exact absurd e (Nat.succ_ne_self _))); have L9 := Lib.hid (K9.out.setRow #[.int .i64 y.lo, .int .i64 y.hi]); have hM := hM.grown (grown_setRow _ (w.heap.size) #[.int .i64 y.lo, .int .i64 y.hi]) (by simp [World.setRow]; omega) (fun j e => by cases e; first | exact Nat.le_refl _ | exact Nat.le_succ _)))
    (refine hK _ _ (Keep2.no (by kernel_rfl) (by kernel_rfl)) ?_; clear hK K)
    try simp only [Act.put, List.setIfInBounds_toArray, List.set_cons_zero, List.set_cons_succ]
    refine wpAnyK_done (by kernel_rfl) ?_ _
    exact HEND.out _ _ _ hM (L8.out.cell 0) (L8.out.cell 1) (L9.out.cell 0) (L9.out.cell 1)
end Go.Proofs.YtkphgdkjjklajaaDoor
