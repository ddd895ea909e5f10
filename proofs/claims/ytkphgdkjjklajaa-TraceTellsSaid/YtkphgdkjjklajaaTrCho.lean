/-
  trace.choices: the iterator over all lists of some numbers below n, in order.
-/
import Derived.Test.YtkphgdkjjklajaaTrHol
import Derived.Test.YtkphgdkjjklajaaGives
import Derived.OwnWalkIn
import Derived.TacticsInMore
import Derived.LoopNIn
import Derived.LoopIn
set_option linter.unusedVariables false
set_option linter.unusedSimpArgs false
namespace Go.Proofs.Ytkphgdkjjklajaa
open Go.RowKit Go.Shelf Go.Sort
attribute [local go_sem] Oper.semAt_some

set_option maxRecDepth 100000 in
set_option maxHeartbeats 1000000 in
theorem clone_nil (w : World) : Calls Try.prog 70 #[.slice none 0 0] w fun e w' => e = .returned (.slice none 0 0) ∧ w' = w := by
  have en := fun w : World => Lib.run_eql_slice_nil (P := Try.prog) w 22 3 none 0 0 0 0 Try.underlying22
  go_enter Try.func70, Try.ntmps70
  go_wp2
  go_ret
  exact ⟨rfl, rfl⟩
/-- a copy of a row of one's own -/
theorem clone_row (base n c : Nat) (A : Option Addr) (l : List Int) (hn : n ≤ 1000000) (h0 : n = 0 → A = none ∧ c = 0) (w : World) (hl : w.ownsRow base 3 1 (.slice A n c) n (l.flatMap encI)) :
    Calls Try.prog 70 #[.slice A n c] w fun e w' => ∃ A' c', e = .returned (.slice A' n c') ∧ w'.ownsRow w.heap.size 3 1 (.slice A' n c') n (l.flatMap encI) ∧ Below w.heap.size w w' := by
  have hlen : n = l.length := by have := hl.1; rw [flat_len encI_len] at this; omega
  rcases Nat.eq_zero_or_pos n with hz | hz
  · obtain ⟨rfl, rfl⟩ := h0 hz
    subst hz
    obtain rfl : l = [] := List.length_eq_zero_iff.1 hlen.symm
    refine (clone_nil w).mono ?_
    rintro e w' ⟨rfl, rfl⟩
    exact ⟨none, 0, rfl, World.ownsRow_nil _ _ _ _, Below.refl _ _⟩
  · obtain ⟨b, _, hs⟩ := Sl.of_own (enc := encI) encI_len hlen hl
    refine (cloneI_any b n c A l hn hz w hs).mono ?_
    rintro e w' ⟨g, c', rfl, h1, h2⟩
    exact ⟨_, c', rfl, h1, h2⟩

/-- a list that is handed out: its address, length, room, content -/
structure HdL where
  A : Option Addr
  n : Nat
  c : Nat
  l : List Int
/-- as it lies -/
def giveL (n₀ : Nat) (x : HdL) (W : World) : Prop := W.ownsRow n₀ 3 1 (.slice x.A x.n x.c) x.n (x.l.flatMap encI)
theorem giveL_ks (n₀ : Nat) (x : HdL) (A B : World) (h : Ks A B) (hg : giveL n₀ x A) : giveL n₀ x B := (h.toKq _ _).row hg

theorem choT_succ (n many : Nat) (from_ : Int) : choT n (many + 1) from_ = ((rg n).filter fun i => decide (from_ ≤ i)).flatMap fun i => (choT n many (i + 1)).map (i :: ·) := rfl
/-- from the k-th on -/
theorem choT_step (n many k : Nat) (hk : k < n) : choT n (many + 1) k = (choT n many (k + 1)).map ((k : Int) :: ·) ++ choT n (many + 1) (k + 1 : Nat) := by
  have e : ((rg n).filter fun i => decide ((k : Int) ≤ i)) = (k : Int) :: ((rg n).filter fun i => decide (((k + 1 : Nat) : Int) ≤ i)) := by
    have h1 : ((rg n).filter fun i => decide ((k : Int) ≤ i)).Pairwise (· < ·) := (rg_pairwise n).filter _
    have h2 : ((k : Int) :: ((rg n).filter fun i => decide (((k + 1 : Nat) : Int) ≤ i))).Pairwise (· < ·) := by
      rw [List.pairwise_cons]
      refine ⟨fun a ha => ?_, (rg_pairwise n).filter _⟩
      have := (List.mem_filter.1 ha).2
      simp only [decide_eq_true_eq] at this
      omega
    refine sorted_ext h1 h2 fun x => ?_
    simp only [List.mem_filter, List.mem_cons, mem_rg, decide_eq_true_eq]
    omega
  rw [choT_succ, e, List.flatMap_cons, choT_succ]
theorem choT_end (n many : Nat) : choT n (many + 1) n = [] := by
  rw [choT_succ, show ((rg n).filter fun i => decide ((n : Int) ≤ i)) = [] from List.filter_eq_nil_iff.2 fun x hx => by have := (mem_rg.1 hx).2; simp; omega]
  rfl

theorem wpIn_append1 {F : Fence} {n : Nat} {P : Program} {o : Oper} {a : Act} {w w' : World} {K : Act → World → Prop} {Q : Exit → Act → World → Prop} (hro : F.round = none) (s x : Operand) (t : TypeId)
    (ho : o.op = .call { callee := .builtin .append, args := #[s, x], argTypes := #[t, t] }) {vs vx v : Value} (hs : a.eval s = vs) (hx : a.eval x = vx)
    (hr : (Builtin.append_ #[t, t] o.type #[vs, vx]).run P w = .ok v w') (ha : o.about P w a.eval = none) (h : K (a.put o.dst v) w') : o.wpIn F n P a w K Q := by
  refine ⟨fun f hf => (by rw [ha] at hf; cases hf), ?_⟩
  · rw [hro]
    unfold Oper.semAt execOp
    simp only [ho, resolve, invoke, builtin, Sem.run_bind, Sem.run_pure, Result.andThen_ok, List.map_toArray, List.map_cons, List.map_nil, hs, hx, hr]
    exact h

/-- what the walk has captured -/
structure ChEnv (W : World) (Bm Bt Bn Bp L many n : Nat) : Prop where
  m : Blk W Bm 3 #[.int .i64 many]
  y : Blk W Bt 50 #[.func (.yield L) #[] #[]]
  n : Blk W Bn 3 #[.int .i64 n]
  p : Blk W Bp 49 #[.func (.func 79) #[] #[.pointer (some ⟨Bm, 0, none⟩), .pointer (some ⟨Bt, 0, none⟩), .pointer (some ⟨Bn, 0, none⟩), .pointer (some ⟨Bp, 0, none⟩)]]
theorem ChEnv.kq {W W' : World} {Bm Bt Bn Bp L many n : Nat} (h : ChEnv W Bm Bt Bn Bp L many n) {g : Option Nat} {k : Nat} (hk : Kq g k W W') (h1 : some Bm ≠ g) (h2 : some Bt ≠ g) (h3 : some Bn ≠ g) (h4 : some Bp ≠ g) : ChEnv W' Bm Bt Bn Bp L many n :=
  ⟨hk.blk h.m h1, hk.blk h.y h2, hk.blk h.n h3, hk.blk h.p h4⟩
theorem ChEnv.ks {W W' : World} {Bm Bt Bn Bp L many n : Nat} (h : ChEnv W Bm Bt Bn Bp L many n) (hk : Ks W W') : ChEnv W' Bm Bt Bn Bp L many n := h.kq (hk.toKq none 0) (by simp) (by simp) (by simp) (by simp)

theorem yes_no {e : Ending} {A B : Prop} (h : (e = .returned (.bool true) ∧ A) ∨ (e = .returned (.bool false) ∧ B)) : ∃ bv, e = .returned (.bool bv) ∧ ((bv = true ∧ A) ∨ (bv = false ∧ B)) := by
  rcases h with ⟨h, k⟩ | ⟨h, k⟩
  · exact ⟨true, h, .inl ⟨rfl, k⟩⟩
  · exact ⟨false, h, .inr ⟨rfl, k⟩⟩
def WalkPost (J : List (List Int) → World → Prop) (Jx : World → Prop) (A : Option Addr) (c : Nat) (l : List Int) (ys : List (List Int)) (W : World) (e : Ending) (W' : World) : Prop :=
  (e = .returned (.bool true) ∧ J ys W' ∧ Kq (Value.ownBlock (.slice A l.length c)) l.length W W') ∨ (e = .returned (.bool false) ∧ Jx W')

set_option maxRecDepth 100000 in
set_option maxHeartbeats 2000000 in
theorem walk_in (L base many n Bm Bt Bn Bp : Nat) (h1 : Bm < base) (h2 : Bt < base) (h3 : Bn < base) (h4 : Bp < base) (hn : n ≤ 8) (hmany : many ≤ 8) (J : List (List Int) → World → Prop) (Jx : World → Prop) (xs : List (List Int)) (hJ : Abides2 base J) (hJx : AbidesR Jx)
    (hY : ∀ m pre (x : HdL) rest W1, xs = pre ++ x.l :: rest → giveL base x W1 → J pre W1 → YieldAt Fence.wide m Try.prog L #[.slice x.A x.n x.c] W1 fun e W' => (e = .returned (.bool true) ∧ J (pre ++ [x.l]) W' ∧ Ks W1 W') ∨ (e = .returned (.bool false) ∧ Jx W')) :
    ∀ (d m : Nat) (A : Option Addr) (c : Nat) (l : List Int) (from_ : Nat) (pre rest : List (List Int)) (W : World), l.length + d = many → (l.length = 0 → A = none ∧ c = 0) → from_ ≤ n → W.ownsRow base 3 1 (.slice A l.length c) l.length (l.flatMap encI) → ChEnv W Bm Bt Bn Bp L many n → base ≤ W.heap.size →
      xs = pre ++ (choT n d from_).map (l ++ ·) ++ rest → J pre W →
      CallsIn Fence.wide m Try.prog 79 #[.slice A l.length c, .int .i64 from_, .pointer (some ⟨Bm, 0, none⟩), .pointer (some ⟨Bt, 0, none⟩), .pointer (some ⟨Bn, 0, none⟩), .pointer (some ⟨Bp, 0, none⟩)] W (WalkPost J Jx A c l (pre ++ (choT n d from_).map (l ++ ·)) W) := by
  intro d
  induction d with
  | zero =>
    intro m A c l from_ pre rest W hd h0 hf hown hE hb hxs hj
    obtain rfl : l.length = many := by omega
    have c0 := hE.m.cell 0
    have c1 := hE.y.cell 0
    have HOWN := Lib.hid hown
    have HE := Lib.hid hE
    have hcl := clone_row base l.length c A l (by omega) h0 W.drew hown
    have HCL := Lib.hid hcl
    have hxs2 : xs = pre ++ l :: rest := by rw [hxs]; simp [choT]
    have hyy : ∀ A' c' w1, w1.ownsRow W.drew.heap.size 3 1 (.slice A' l.length c') l.length (l.flatMap encI) → Below W.drew.heap.size W.drew w1 → YieldAt Fence.wide (m - 1) Try.prog L #[.slice A' l.length c'] w1 fun e W' => (e = .returned (.bool true) ∧ J (pre ++ [l]) W' ∧ Ks w1 W') ∨ (e = .returned (.bool false) ∧ Jx W') := fun A' c' w1 ho hbw =>
      hY (m - 1) pre ⟨A', l.length, c', l⟩ rest w1 hxs2 (ownsRow_base ho hb) (hJ pre W w1 none hj ⟨hbw.os, hbw.tape, hbw.output, hbw.size, fun i hi _ => hbw.block i hi⟩ (fun r e => by cases e))
    have HYY := Lib.hid hyy
    have HW := Lib.hid (fun (w1 : World) (hbw : Below W.drew.heap.size W.drew w1) => show w1.cell? ⟨Bt, 0, none⟩ = some (.func (.yield L) #[] #[]) from (Blk.below (w := W.drew) (show Blk W.drew Bt 50 #[.func (.yield L) #[] #[]] from hE.y) hbw (by show Bt < W.heap.size; omega)).cell 0)
    clear hcl hxs2 hyy
    refine callsIn_of_wp Try.func79 rfl trivial ?_ rfl
    simp only [Try.ntmps79, List.size_toArray, List.length_cons, List.length_nil, Nat.reduceAdd, Nat.reduceSub, Array.replicate_succ, Array.replicate_zero, List.push_toArray, List.append_toArray, List.nil_append, List.cons_append]
    clear hE hown hxs hj hY
    gi_wp2
    gi_region_with (first
      | (refine ⟨trivial, fun h => by simp [Fence.wide] at h, ?_⟩; refine (callsIn_wide.2 HCL.out).mono ?_; rintro e w1 ⟨A', c', rfl, ho1, hb1⟩; have y1 := HW.out w1 hb1; obtain ⟨fn, tmps, assign, body, hy, hR⟩ := HYY.out A' c' w1 ho1 hb1)
      | (refine ⟨fun h => by simp [Fence.wide] at h, ?_⟩; refine hR.mono ?_; rintro e W2 hh; obtain ⟨bv, rfl, hh2⟩ := yes_no hh))
    all_goals
      clear hy hR hh
      have HH2 := Lib.hid hh2
      have HB1 := Lib.hid hb1
      clear hh2 hb1 ho1
      gi_wp2
      go_ret
      have hks : Ks W w1 := ⟨HB1.out.size, (Ks.of_below (A := W.drew) HB1.out).all⟩
      rcases HH2.out with ⟨rfl, k1, k2⟩ | ⟨rfl, k1⟩
      · exact .inl ⟨rfl, by simpa [choT] using k1, (hks.trans k2).toKq _ _⟩
      · exact .inr ⟨rfl, k1⟩
  | succ d ih =>
    intro m A c l from_ pre rest W hd h0 hf hown hE hb hxs hj
    have hlm : ¬ l.length = many := by omega
    have hdl : decide ((l.length : Int) = (many : Int)) = false := by simp; omega
    have c0 := hE.m.cell 0
    have c2 := hE.n.cell 0
    have HOWN := Lib.hid hown
    have HE := Lib.hid hE
    have HXS := Lib.hid hxs
    have HJ0 := Lib.hid hj
    have HIH := Lib.hid ih
    have hgl : ∀ g, Value.ownBlock (.slice A l.length c) = some g → base ≤ g := fun g e => (hown.lt g e).1
    have HGL := Lib.hid hgl
    have hl8 : l.length ≤ 8 := by omega
    rw [callsIn_wide]
    clear hE hown hxs hj hY ih hgl
    go_enter Try.func79, Try.ntmps79
    go_wp2_with fail
    go_loopw [9] (fun i wr => ∃ (k : Nat) (dn : List (List Int)), from_ ≤ k ∧ k ≤ n ∧ i = .int .i64 k ∧ (choT n (d + 1) from_).map (l ++ ·) = dn ++ (choT n (d + 1) k).map (l ++ ·) ∧ J (pre ++ dn) wr ∧ Kq (Value.ownBlock (.slice A l.length c)) l.length W wr) (fun i _ => n - (intOf i).toNat)
    case atStart => exact ⟨from_, [], Nat.le_refl _, hf, rfl, by simp, by simpa using HJ0.out, Kq.refl _ _ _⟩
    case round =>
      obtain ⟨k, dn, hk0, hk, rfl, hdn, hjk, hkq⟩ := hrel
      have hneg : ∀ b, b < base → some b ≠ Value.ownBlock (.slice A l.length c) := fun b hbb e => by have := HGL.out b e.symm; omega
      have hE := HE.out.kq hkq (hneg _ h1) (hneg _ h2) (hneg _ h3) (hneg _ h4)
      have hown := hkq.row HOWN.out
      have hz := hkq.size
      have d2 := hE.n.cell 0
      have HNEG := Lib.hid hneg
      have HKQ := Lib.hid hkq
      have HDN := Lib.hid hdn
      have HJK := Lib.hid hjk
      have HE3 := Lib.hid hE
      have HW3 := Lib.hid hown
      by_cases hlt : k < n
      · clear hE hown hkq hdn hjk hneg c0 c2
        have hHE : HE3.out.p.cell 0 = HE3.out.p.cell 0 := rfl
        have e0 : wr.drew.cell? ⟨Bp, 0, none⟩ = some (.func (.func 79) #[] #[.pointer (some ⟨Bm, 0, none⟩), .pointer (some ⟨Bt, 0, none⟩), .pointer (some ⟨Bn, 0, none⟩), .pointer (some ⟨Bp, 0, none⟩)]) := HE3.out.p.cell 0
        have e1 : (wr.drew.alloc (.cells #[.int .i64 (k : Int)] 3)).cell? ⟨Bp, 0, none⟩ = some (.func (.func 79) #[] #[.pointer (some ⟨Bm, 0, none⟩), .pointer (some ⟨Bt, 0, none⟩), .pointer (some ⟨Bn, 0, none⟩), .pointer (some ⟨Bp, 0, none⟩)]) := (HE3.out.p.alloc _).cell 0
        have E0 := Lib.hid e0
        have E1 := Lib.hid e1
        have HX := Lib.hid ((Blk.new wr.drew 3 #[.int .i64 (k : Int)]).cell 0)
        have HOD := Lib.hid (show (wr.drew.alloc (.cells #[.int .i64 (k : Int)] 3)).ownsRow base 3 1 (.slice A l.length c) l.length (l.flatMap encI) from World.ownsRow.alloc (w := wr.drew) HW3.out _)
        have HNX := Lib.hid (fun (A1 : Option Addr) (c1 : Nat) (w2 : World) (hown2 : w2.ownsRow base 3 1 (.slice A1 (l.length + 1) c1) (l.length + 1) (l.flatMap encI ++ [.int .i64 (k : Int)])) (hgrow2 : (wr.drew.alloc (.cells #[.int .i64 (k : Int)] 3)).grownBy w2 (Value.ownBlock (.slice A l.length c)))
            (hkq2 : ∀ w3, Kq (Value.ownBlock (.slice A1 (l.length + 1) c1)) (l.length + 1) w2 w3 → Kq (Value.ownBlock (.slice A l.length c)) l.length (wr.drew.alloc (.cells #[.int .i64 (k : Int)] 3)) w3) =>
          have hks1 : Ks wr (wr.drew.alloc (.cells #[.int .i64 (k : Int)] 3)) := ⟨by simp, (Ks.of_below (A := wr.drew) ((Below.refl _ wr.drew).alloc (Nat.le_refl _) _)).all⟩
          have hkq3 : Kq (Value.ownBlock (.slice A l.length c)) l.length wr w2 := (hks1.toKq _ _).trans (hkq2 w2 (Kq.refl _ _ _))
          have hE2 : ChEnv w2 Bm Bt Bn Bp L many n := HE3.out.kq hkq3 (HNEG.out _ h1) (HNEG.out _ h2) (HNEG.out _ h3) (HNEG.out _ h4)
          have hz2 := hkq3.size
          have hja : J (pre ++ dn) (wr.drew.alloc (.cells #[.int .i64 (k : Int)] 3)) := hJ _ wr _ none HJK.out ⟨rfl, rfl, rfl, by simp, fun i hi _ => Below.heap_alloc wr.drew _ i hi⟩ (fun r e => by cases e)
          have hj1 : J (pre ++ dn) w2 := hJ _ _ _ (Value.ownBlock (.slice A l.length c)) hja hgrow2 (fun r e => by
            obtain ⟨q1, q2⟩ := HOD.out.lt r e
            refine ⟨q1, ?_⟩
            rcases HOD.out.2 with ⟨hv, _⟩ | ⟨g, cap, cur, hv, _, hg, _⟩
            · rw [hv] at e; cases e
            · rw [hv] at e; injection e with e; subst e; exact ⟨_, _, _, hg⟩)
          have hle : (l ++ [(k : Int)]).length = l.length + 1 := by simp
          have hcall := HIH.out (0 : Nat) A1 c1 (l ++ [(k : Int)]) (k + 1) (pre ++ dn) ((choT n (d + 1) (k + 1 : Nat)).map (l ++ ·) ++ rest) w2 (by rw [hle]; omega) (fun h => by rw [hle] at h; omega) (by omega)
            (by rw [hle, List.flatMap_append]; exact hown2) hE2 (by omega) (by rw [HXS.out, HDN.out, choT_step n d k hlt]; simp [List.map_map, Function.comp_def]) hj1
          show w2.cell? ⟨Bp, 0, none⟩ = some (.func (.func 79) #[] #[.pointer (some ⟨Bm, 0, none⟩), .pointer (some ⟨Bt, 0, none⟩), .pointer (some ⟨Bn, 0, none⟩), .pointer (some ⟨Bp, 0, none⟩)]) ∧
            Calls Try.prog 79 #[.slice A1 (l.length + 1) c1, .int .i64 ((k + 1 : Nat) : Int), .pointer (some ⟨Bm, 0, none⟩), .pointer (some ⟨Bt, 0, none⟩), .pointer (some ⟨Bn, 0, none⟩), .pointer (some ⟨Bp, 0, none⟩)] w2 fun e w3 =>
              ∃ bv, e = .returned (.bool bv) ∧ ((bv = true ∧ J (pre ++ (dn ++ (choT n d (k + 1 : Nat)).map (fun x => l ++ ((k : Int) :: x)))) w3 ∧ Kq (Value.ownBlock (.slice A l.length c)) l.length W w3) ∨ (bv = false ∧ Jx w3)) from
            ⟨hE2.p.cell 0, (callsIn_wide.1 (by rw [hle] at hcall; exact hcall)).mono fun e w3 hh => by
              unfold WalkPost at hh
              rcases hh with ⟨he, k1, k2⟩ | ⟨he, k1⟩
              · refine ⟨true, he, .inl ⟨rfl, by simpa [List.append_assoc] using k1, HKQ.out.trans ((hks1.toKq _ _).trans (hkq2 w3 ?_))⟩⟩
                rw [hle] at k2
                exact k2
              · exact ⟨false, he, .inr ⟨rfl, k1⟩⟩⟩)
        have HSTEP := Lib.hid (choT_step n d k hlt)
        clear e0 e1 hHE
        go_wp2_with fail
        have hki : IntKind.i64.wrap ((k : Int) + 1) = ((k + 1 : Nat) : Int) := by rw [IntWalk.i64_in _ (by omega)]; omega
        have HKI := Lib.hid hki
        clear hki
        refine wp_region_PL [0] (fun W => W.cell? ⟨Bp, 0, none⟩ = some (.func (.func 79) #[] #[.pointer (some ⟨Bm, 0, none⟩), .pointer (some ⟨Bt, 0, none⟩), .pointer (some ⟨Bn, 0, none⟩), .pointer (some ⟨Bp, 0, none⟩)])) rfl (by kernel_rfl) (E0.out) (fun hF0 => ?_)
        (refine wpAnyP_loadL (i := 0) (v := ?_) rfl (by kernel_rfl) (by kernel_rfl) (by kernel_rfl) (by rfl) (fun _ _ _ h => h) hF0 (by rfl) ?_ ?_; rotate_left 1; focus (intro w hFw; (try dsimp only at hFw); go_split_ands; go_simp; try with_reducible rfl))
        try simp only [Act.put, List.setIfInBounds_toArray, List.set_cons_zero, List.set_cons_succ]
        (refine wpAnyP_takeL (i := 1) (v := ?_) rfl (by kernel_rfl) (by kernel_rfl) (by kernel_rfl) (fun _ _ _ h => h) (by rfl) ?_ ?_; rotate_left 1; focus (intro w; go_simp; try with_reducible rfl))
        try simp only [Act.put, List.setIfInBounds_toArray, List.set_cons_zero, List.set_cons_succ]
        (refine wpAnyP_takeL (i := 2) (v := ?_) rfl (by kernel_rfl) (by kernel_rfl) (by kernel_rfl) (fun _ _ _ h => h) (by rfl) ?_ ?_; rotate_left 1; focus (intro w; go_simp; try with_reducible rfl))
        try simp only [Act.put, List.setIfInBounds_toArray, List.set_cons_zero, List.set_cons_succ]
        (refine wpAnyP_takeL (i := 5) (v := ?_) rfl (by kernel_rfl) (by kernel_rfl) (by kernel_rfl) (fun _ _ _ h => h) (by rfl) ?_ ?_; rotate_left 1; focus (intro w; go_simp; try with_reducible rfl))
        try simp only [Act.put, List.setIfInBounds_toArray, List.set_cons_zero, List.set_cons_succ]
        (refine wpAnyP_takeL (i := 6) (v := ?_) rfl (by kernel_rfl) (by kernel_rfl) (by kernel_rfl) (fun _ _ _ h => h) (by rfl) ?_ ?_; rotate_left 1; focus (intro w; go_simp; (rw [HKI.out])))
        try simp only [Act.put, List.setIfInBounds_toArray, List.set_cons_zero, List.set_cons_succ]
        refine wpAnyP_step (i := 3) rfl (by kernel_rfl) (by rfl) (fun K hK => ?_)
        go_simp
        (refine hK _ _ (E1.out) (fun hF1 => ?_); clear hK K hF0)
        try simp only [Act.put, List.setIfInBounds_toArray, List.set_cons_zero, List.set_cons_succ]
        refine wpAnyP_step (i := 4) rfl (by kernel_rfl) (by rfl) (fun K hK => ?_)
        (refine wp_appendK _ _ rfl base _ l.length _ (by rfl) HOD.out ⟨wr.heap.size, 0, none⟩ 1 (k : Int) (by rfl) HX.out (by omega) (by simp; omega) ?_; intro A1 c1 w2 o2 g2 q2; obtain ⟨hcc, hcl⟩ := HNX.out A1 c1 w2 o2 g2 q2; have HCL := Lib.hid hcl; clear o2 g2 q2 hcl)
        (refine hK _ _ (hcc) (fun hF2 => ?_); clear hK K hF1)
        try simp only [Act.put, List.setIfInBounds_toArray, List.set_cons_zero, List.set_cons_succ]
        refine wpAnyP_last (i := 7) rfl (by kernel_rfl) (by kernel_rfl) (by rfl) (fun K hK => ?_)
        go_simp
        (refine HCL.out.mono ?_; rintro e w3 ⟨bv, rfl, hh⟩; have HH := Lib.hid hh; clear hh)
        (refine hK _ _ ?_; clear hK K)
        try simp only [Act.put, List.setIfInBounds_toArray, List.set_cons_zero, List.set_cons_succ]
        (refine wpAnyP_takeL (i := 8) (v := ?_) rfl (by kernel_rfl) (by kernel_rfl) (by kernel_rfl) (fun _ _ _ h => h) (by rfl) ?_ ?_; rotate_left 1; focus (intro w; go_simp; try with_reducible rfl))
        try simp only [Act.put, List.setIfInBounds_toArray, List.set_cons_zero, List.set_cons_succ]
        refine wpAnyP_done (by kernel_rfl) ?_ _
        cases bv
        · have h9 := HH.out
          simp only [Bool.false_eq_true, false_and, true_and, false_or] at h9
          have H9 := Lib.hid h9
          clear h9
          go_wp2_with fail
          go_ret
          exact .inr ⟨rfl, H9.out⟩
        · have h9 := HH.out
          simp only [Bool.true_eq_false, false_and, true_and, or_false] at h9
          have H9 := Lib.hid h9
          clear h9
          go_wp2_with fail
          go_roundw
          case rel => exact ⟨k + 1, dn ++ (choT n d (k + 1 : Nat)).map (fun x => l ++ ((k : Int) :: x)), by omega, by omega, by go_num, by rw [HDN.out, HSTEP.out]; simp [List.map_map, Function.comp_def], H9.out.1, H9.out.2⟩
          case measure => simp [intOf]; omega
      · obtain rfl : k = n := by omega
        clear hkq hdn hjk hE hown hneg
        go_wp2_with fail
        go_ret
        have e := HDN.out
        rw [choT_end, List.map_nil, List.append_nil] at e
        exact .inl ⟨rfl, by rw [e]; exact HJK.out, HKQ.out⟩

theorem yield_wide {m m' : Nat} {P : Program} {l : Nat} {args : Array Value} {W : World} {R : Ending → World → Prop} (h : YieldAt Fence.wide m P l args W R) : YieldAt Fence.wide m' P l args W R := by
  obtain ⟨fn, tmps, assign, body, h1, h2, h3⟩ := h
  exact ⟨fn, tmps, assign, body, h1, h2, fun c cs _ => h3 c cs (room_wide _)⟩

theorem choices_any (n many : Nat) (w : World) : Calls Try.prog 56 #[.int .i64 n, .int .i64 many] w fun e w' => e = .returned (.func (.func 78) #[] #[.pointer (some ⟨w.heap.size + 1, 0, none⟩), .pointer (some ⟨w.heap.size, 0, none⟩)]) ∧
    w' = (w.alloc (.cells #[.int .i64 n] 3)).alloc (.cells #[.int .i64 many] 3) := by
  go_enter Try.func56, Try.ntmps56
  go_wp2
  go_ret
  simp

theorem gives_any (m Bn Bm many n : Nat) (hn : n ≤ 8) (hmany : many ≤ 8) (w : World) (hBn : Blk w Bn 3 #[.int .i64 n]) (hBm : Blk w Bm 3 #[.int .i64 many]) :
    Gives Fence.wide m Try.prog 78 #[.pointer (some ⟨Bm, 0, none⟩), .pointer (some ⟨Bn, 0, none⟩)] (fun x : HdL => #[.slice x.A x.n x.c]) HdL.l (giveL w.heap.size) Ks (choT n many 0) w := by
  intro L J Jx W hW hJ hJx hY h0
  have hBnW := hBn.below hW hBn.lt
  have hBmW := hBm.below hW hBm.lt
  have hz := hW.size
  have z1 := hBnW.lt
  have z2 := hBmW.lt
  obtain ⟨V, hV⟩ : ∃ V, V = ((W.alloc (.cells #[.func (.yield L) #[] #[]] 50)).alloc (.cells #[.func (.func 79) #[] #[.pointer (some ⟨Bm, 0, none⟩), .pointer (some ⟨W.heap.size, 0, none⟩), .pointer (some ⟨Bn, 0, none⟩), .pointer (some ⟨W.heap.size + 1, 0, none⟩)]] 49)) := ⟨_, rfl⟩
  have hVz : V.heap.size = W.heap.size + 2 := by rw [hV]; simp
  have hg : W.grownBy V none := by
    rw [hV]
    exact (World.grownBy_alloc W _ none).trans (World.grownBy_alloc _ _ none)
  have hjV : J [] V := hJ _ _ _ none h0 hg (fun r e => by cases e)
  have hE : ChEnv V Bm W.heap.size Bn (W.heap.size + 1) L many n := by
    rw [hV]
    refine ⟨(hBmW.alloc _).alloc _, (Blk.new W _ _).alloc _, (hBnW.alloc _).alloc _, ?_⟩
    have := Blk.new (W.alloc (.cells #[.func (.yield L) #[] #[]] 50)) 49 #[.func (.func 79) #[] #[.pointer (some ⟨Bm, 0, none⟩), .pointer (some ⟨W.heap.size, 0, none⟩), .pointer (some ⟨Bn, 0, none⟩), .pointer (some ⟨W.heap.size + 1, 0, none⟩)]]
    rwa [World.size_alloc] at this
  have hcall := walk_in L V.heap.size many n Bm W.heap.size Bn (W.heap.size + 1) (by omega) (by omega) (by omega) (by omega) hn hmany J Jx (choT n many 0) (fun pre X Y row h hg hr => hJ pre X Y row h hg fun r e => by obtain ⟨q1, q2⟩ := hr r e; exact ⟨by omega, q2⟩) hJx
    (fun mm pre x rest W1 hxs hgv hj => by
      exact yield_wide (hY pre x rest W1 hxs (ownsRow_base hgv (by omega)) hj))
    many 0 none 0 [] 0 [] [] V (by simp) (fun _ => ⟨rfl, rfl⟩) (Nat.zero_le _) (World.ownsRow_nil _ _ _ _) hE (Nat.le_refl _) (by simp) hjV
  rw [callsIn_wide] at hcall ⊢
  rw [hV] at hcall
  have HC := Lib.hid hcall
  clear hcall hV hY hJ hJx h0 hE hjV hg
  go_enter Try.func78, Try.ntmps78
  go_wp2_with (go_at_call 79; refine HC.out.mono ?_; rintro e w3 hh; have HH := Lib.hid hh; obtain ⟨bv, rfl⟩ : ∃ bv, e = .returned (.bool bv) := (by rcases hh with ⟨h, _⟩ | ⟨h, _⟩ <;> exact ⟨_, h⟩); clear hh)
  go_end0
  refine ⟨⟨_, rfl⟩, ?_⟩
  rcases HH.out with ⟨_, k1, _⟩ | ⟨_, k1⟩
  · exact .inl (by simpa using k1)
  · exact .inr k1
end Go.Proofs.Ytkphgdkjjklajaa
