/-
  Nets and origins as they lie, for the laws that compare the program with the reference (the same words stand in TraceNetsW). The reference's Samples; what Samples answers of any net, in one form: the program's and the reference's. The walk of the law TraceSamples.
-/
import Derived.Test.YtkphgdkjjklajaaNetU
import Derived.Test.YtkphgdkjjklajaaOpenNet
import Derived.Deep.CutRange
import Derived.Test.YtkphgdkjjklajaaTrRCh
set_option linter.unusedVariables false
set_option linter.unusedSimpArgs false
namespace Go.Proofs.Ytkphgdkjjklajaa
open Go.RowKit Go.Shelf Go.Sort

/-- a net and origins, as they lie -/
structure NArg where
  b1 : Nat
  b2 : Nat
  b3 : Nat
  Ab : Option Addr
  Am : Option Addr
  Ao : Option Addr
  nb : Nat
  cb : Nat
  nm : Nat
  cm : Nat
  no : Nat
  co : Nat
  bs : List Int
  ms : List Mv
  l : List Int
structure NArg.Ok (x : NArg) (W : World) : Prop where
  m : NetM W x.b1 x.b2 x.Ab x.Am x.nb x.cb x.nm x.cm x.bs x.ms
  o : Sl encI 1 W x.b3 x.Ao x.no x.l
  nb : x.nb ≤ 100
  nm : x.nm ≤ 100
  no : x.no ≤ 100
  co : x.no ≤ x.co
theorem NArg.Ok.old {x : NArg} {W W' : World} (h : x.Ok W) (hb : Below W.heap.size W W') : x.Ok W' := ⟨h.m.old hb, h.o.old hb, h.nb, h.nm, h.no, h.co⟩
theorem vast_no {nb nm : Nat} (h : nb ≤ 20 ∧ nm ≤ 30) : (decide (20 < nb) || decide (30 < nm)) = false := by
  rw [decide_eq_false (by omega), decide_eq_false (by omega)]; rfl
theorem vast_yes {nb nm : Nat} (h : ¬ (nb ≤ 20 ∧ nm ≤ 30)) : (decide (20 < nb) || decide (30 < nm)) = true := by
  by_cases h1 : 20 < nb
  · rw [decide_eq_true h1]; rfl
  · rw [decide_eq_true (show 30 < nm by omega)]; simp

/-- a net's own block -/
def NtB (V W : World) (B : Nat) (cs : Array Value) : Prop := Blk W B 25 cs ∧ V.heap.size ≤ B
theorem NtB.newE {V W : World} (h : Below V.heap.size V W) : ∃ B, B = W.heap.size ∧ NtB V (W.alloc (.cells #[.slice none 0 0, .slice none 0 0] 25)) B #[.slice none 0 0, .slice none 0 0] := ⟨_, rfl, Blk.new _ _ _, h.size⟩
theorem NtB.old {V W W' : World} {B : Nat} {cs : Array Value} (h : NtB V W B cs) (hb : Below W.heap.size W W') : NtB V W' B cs := ⟨h.1.below hb h.1.lt, h.2⟩
theorem NtB.store {V W : World} {B : Nat} (u v : Value) (h : NtB V W B #[.slice none 0 0, .slice none 0 0]) (hV : Below V.heap.size V W) :
    NtB V ((W.setCell ⟨B, 0, none⟩ u).setCell ⟨B, 1, none⟩ v) B #[u, v] ∧ Below V.heap.size V ((W.setCell ⟨B, 0, none⟩ u).setCell ⟨B, 1, none⟩ v) :=
  ⟨⟨(h.1.set_ 0 u).set_ 1 v, h.2⟩, (hV.setCell (p := ⟨B, 0, none⟩) h.2 _).setCell (p := ⟨B, 1, none⟩) h.2 _⟩
theorem NtB.last {V W : World} (h : Below V.heap.size V W) (u v : Value) : NtB V (W.alloc (.cells #[u, v] 25)) W.heap.size #[u, v] ∧ Below V.heap.size V (W.alloc (.cells #[u, v] 25)) := ⟨⟨Blk.new _ _ _, h.size⟩, h.alloc h.size _⟩
theorem Sl.store2 {α : Type} {en : α → List Value} {q : Nat} {W : World} {b B n : Nat} {A : Option Addr} {l : List α} (h : Sl en q W b A n l) (hne : 0 < n → b ≠ B) (u v : Value) : Sl en q ((W.setCell ⟨B, 0, none⟩ u).setCell ⟨B, 1, none⟩ v) b A n l :=
  (h.setCell (p := ⟨B, 0, none⟩) hne u).setCell (p := ⟨B, 1, none⟩) hne v
theorem NetM.store2 {W : World} {b1 b2 B nb cb nm cm : Nat} {Ab Am : Option Addr} {bs : List Int} {ms : List Mv} (h : NetM W b1 b2 Ab Am nb cb nm cm bs ms) (h1 : (0 < nb → b1 ≠ B) ∧ (0 < nm → b2 ≠ B)) (u v : Value) : NetM ((W.setCell ⟨B, 0, none⟩ u).setCell ⟨B, 1, none⟩ v) b1 b2 Ab Am nb cb nm cm bs ms :=
  ⟨h.b.store2 h1.1 u v, h.m.store2 h1.2 u v, h.cb, h.cm⟩
theorem NetM.allocN {W : World} {b1 b2 nb cb nm cm : Nat} {Ab Am : Option Addr} {bs : List Int} {ms : List Mv} (h : NetM W b1 b2 Ab Am nb cb nm cm bs ms) (o : Obj) : NetM (W.alloc o) b1 b2 Ab Am nb cb nm cm bs ms := ⟨h.b.alloc o, h.m.alloc o, h.cb, h.cm⟩
theorem CopyPost.open {nb nm : Nat} {bs : List Int} {ms : List Mv} {w w' : World} {e : Ending} (h : CopyPost nb nm bs ms w e w') (hb : nb = bs.length) (hm : nm = ms.length) :
    ∃ (Ab Am : Option Addr) (cb cm b1 b2 : Nat), e = .returned (netV Ab Am nb cb nm cm) ∧ NetM w' b1 b2 Ab Am nb cb nm cm bs ms ∧ w.heap.size ≤ b1 ∧ w.heap.size ≤ b2 ∧ Below w.heap.size w w' := by
  obtain ⟨Ab, Am, cb, cm, rfl, h1, h2, _, h3⟩ := h
  obtain ⟨b1, k1, s1⟩ := Sl.of_own (enc := encI) encI_len hb h1
  obtain ⟨b2, k2, s2⟩ := Sl.of_own (enc := encM) encM_len hm h2
  exact ⟨Ab, Am, cb, cm, b1, b2, rfl, ⟨s1, s2, own_capN h1, own_capN h2⟩, k1, k2, h3⟩

theorem NArg.Ok.dieTo {x : NArg} {W W' : World} {d : Nat} (h : x.Ok W) (hg : W.grownBy W' (some d)) (h1 : 0 < x.nb → x.b1 ≠ d) (h2 : 0 < x.nm → x.b2 ≠ d) (h3 : 0 < x.no → x.b3 ≠ d) : x.Ok W' :=
  ⟨⟨h.m.b.grown hg fun hn e => h1 hn (by injection e), h.m.m.grown hg fun hn e => h2 hn (by injection e), h.m.cb, h.m.cm⟩, h.o.grown hg fun hn e => h3 hn (by injection e), h.nb, h.nm, h.no, h.co⟩
/-- while a row is laid and the die is cast -/
structure Md (V W : World) (d : Nat) : Prop where
  g : V.grownBy W (some d)
  d : IsDie W d
theorem Md.alloc {V W : World} {d : Nat} (h : Md V W d) (o : Obj) : Md V (W.alloc o) d := ⟨only_alloc h.g o, h.d.alloc o⟩
theorem Md.cast {V W W' : World} {d : Nat} (h : Md V W d) (hd : IsDie W' d) (hg : W.grownBy W' (some d)) : Md V W' d := ⟨only_trans h.g hg, hd⟩
def Rw (d : Nat) (W : World) (X : Nat) (t : TypeId) (cs : Array Value) : Prop := Blk W X t cs ∧ X ≠ d
theorem Rw.new {W : World} {d : Nat} (h : d < W.heap.size) (t : TypeId) (cs : Array Value) : Rw d (W.alloc (.cells cs t)) W.heap.size t cs := ⟨Blk.new _ _ _, by omega⟩
theorem Rw.alloc {W : World} {d X : Nat} {t : TypeId} {cs : Array Value} (h : Rw d W X t cs) (o : Obj) : Rw d (W.alloc o) X t cs := ⟨h.1.alloc o, h.2⟩
theorem Rw.die {W W' : World} {d X : Nat} {t : TypeId} {cs : Array Value} (h : Rw d W X t cs) (hg : W.grownBy W' (some d)) : Rw d W' X t cs := ⟨h.1.grown hg (fun e => h.2 (by injection e)), h.2⟩

end Go.Proofs.Ytkphgdkjjklajaa

namespace Go.Proofs.Ytkphgdkjjklajaa
open Go.RowKit Go.Shelf Go.Sort

theorem Sl.sub1Q {W : World} {b n : Nat} {A : Option Addr} {l : List Int} (h : Sl encI 1 W b A n l) {k : Nat} (hk : k < l.length) : ∃ o, A = some ⟨b, o, none⟩ ∧ Sl encI 1 W b (some ⟨b, o + k, none⟩) 1 [l[k]] := by
  obtain ⟨o, rfl, hz, hc⟩ := h.atI hk
  refine ⟨o, rfl, rfl, fun _ => ⟨o + k, rfl, hz, fun j hj i u hu => ?_⟩⟩
  obtain rfl : j = 0 := by simp at hj; omega
  obtain rfl : i = 0 := by
    rcases Nat.eq_zero_or_pos i with h | h
    · exact h
    · rw [List.getElem?_eq_none (by simp [encI]; omega)] at hu; cases hu
  simpa [encI, hc] using hu
theorem info_spansQ : (Try.prog.info? 44).map (fun i => (i.zero, i.size, i.bytes)) = some (some (.slice none 0 0), 1, 24) := by kernel_rfl
/-- what is known so far, as it lies, away from the row itself -/
def SpansQ (W : World) (v : Value) (nb : Nat) (ks : List (SlE Span)) : Prop := ∀ x ∈ ks, Sl encR 2 W x.b x.A x.n x.l ∧ x.n = nb ∧ ∀ g, v.ownBlock = some g → g ≠ x.b
theorem SpansQ.old {W W' : World} {v : Value} {nb : Nat} {ks : List (SlE Span)} (h : SpansQ W v nb ks) (hb : Below W.heap.size W W') : SpansQ W' v nb ks := fun x hx => ⟨(h x hx).1.old hb, (h x hx).2⟩
theorem SpansQ.turn {W W' : World} {v v' : Value} {nb : Nat} {ks : List (SlE Span)} (h : SpansQ W v nb ks) (hn : 0 < nb) (hg : W.grownBy W' v.ownBlock) (hat : v'.ownBlock = v.ownBlock ∨ v'.ownBlock = some W.heap.size) : SpansQ W' v' nb ks := fun x hx => by
  obtain ⟨h1, h2, h3⟩ := h x hx
  refine ⟨h1.grown hg fun _ e => h3 _ e.symm rfl, h2, fun g hgv => ?_⟩
  rcases hat with e | e
  · exact h3 g (by rw [← e]; exact hgv)
  · rw [e] at hgv
    injection hgv with hgv
    have := h1.lt (by omega)
    omega
def chkS (bs : List Int) (ms : List Mv) (l : List Int) : Int := if chkO bs ms l = 0 then (if (samplesT bs ms l).isSome then 0 else 3) else chkO bs ms l
abbrev SamOut (bs : List Int) (ms : List Mv) (l : List Int) (w : World) : Ending → World → Prop := AnsI (if (samplesT bs ms l).isSome then 0 else 3) ((samplesT bs ms l).getD []) w
theorem SamOut.yes {bs : List Int} {ms : List Mv} {l xs : List Int} {w w' : World} {A : Option Addr} {n c b : Nat} (h : samplesT bs ms l = some xs) (hs : Sl encI 1 w' b A n xs) (hn : n ≤ 1000) (hb : Below w.heap.size w w') : SamOut bs ms l w (.returned (.tuple #[.slice A n c, .int .i64 0])) w' := by
  unfold SamOut
  rw [h]
  exact ⟨A, n, c, b, rfl, hs, hn, hb⟩
theorem SamOut.no {bs : List Int} {ms : List Mv} {l : List Int} {w w' : World} (h : samplesT bs ms l = none) (hb : Below w.heap.size w w') : SamOut bs ms l w (.returned (.tuple #[.slice none 0 0, .int .i64 3])) w' := by
  unfold SamOut
  rw [h]
  exact AnsI.err (by decide) ⟨rfl, hb⟩
theorem SamPost.out {bs : List Int} {ms : List Mv} {l : List Int} {w : World} {e : Ending} {w' : World} (h : SamPost bs ms l w e w') (hn : bs.length ≤ 8) : SamOut bs ms l w e w' := by
  obtain ⟨h1 | h1, hB⟩ := h
  · obtain ⟨xs, A, c, h2, rfl, h4⟩ := h1
    obtain ⟨b, _, hs⟩ := Sl.of_own (enc := encI) encI_len rfl h4
    refine SamOut.yes h2 hs ?_ hB
    have h5 : xs ∈ (List.range (bs.length + 1)).flatMap fun many => choT bs.length many 0 := List.mem_of_find?_eq_some h2
    obtain ⟨many, hm, hx⟩ := List.mem_flatMap.1 h5
    have h6 := choT_len hx
    have := List.mem_range.1 hm
    omega
  · rw [h1.2]; exact SamOut.no h1.1 hB
set_option maxRecDepth 100000 in
set_option maxHeartbeats 2000000 in
theorem qSamples_ok (b1 b2 b3 : Nat) (Ab Am Ao : Option Addr) (nb cb nm cm no co : Nat) (bs : List Int) (ms : List Mv) (l : List Int) (w : World) (hM : NetM w b1 b2 Ab Am nb cb nm cm bs ms) (hO : Sl encI 1 w b3 Ao no l) (hco : no ≤ co) (hc : chkO bs ms l = 0) :
    Calls Try.prog 22 #[netV Ab Am nb cb nm cm, .slice Ao no co] w (SamOut bs ms l w) := by
  obtain ⟨i1, hi1, jz0, jz1, jz2⟩ := info_parts info_spansQ
  obtain ⟨hN, hl⟩ := chkO_in hc
  have hBn := Blk.new w 25 #[.slice Ab nb cb, .slice Am nm cm]
  have c0 := hBn.cell 0
  have c1 := hBn.cell 1
  have hb0 : Below w.heap.size w (w.alloc (.cells #[.slice Ab nb cb, .slice Am nm cm] 25)) := (Below.refl _ w).alloc (Nat.le_refl _) _
  have hnb := hM.b.len
  have hnm := hM.m.len
  have hnb8 : nb ≤ 8 := by have := hN.n1; omega
  have hn0 : 0 < nb := by have := hN.n0; omega
  have hnm12 : nm ≤ 12 := by have := hN.m1; omega
  have hno8 : no ≤ 8 := by have := hO.len; have := orig_len hl.nodup hl.rg hN.n1; omega
  have hcon := qcheckO_any b1 b2 b3 Ab Am Ao nb cb nm cm no co bs ms l _ (hM.old hb0) (by omega) (by omega) (hO.old hb0) (by omega)
  rw [hc] at hcon
  have HC := Lib.hid hcon
  have HB0 := Lib.hid hb0
  have HBN := Lib.hid hBn
  have HM := Lib.hid hM
  have HO := Lib.hid hO
  have HN := Lib.hid hN
  have HL := Lib.hid hl
  have HNB := Lib.hid hnb
  have HNO := Lib.hid hO.len
  have hchk := chkNet_zero hN
  have HCK := Lib.hid hchk
  clear hcon hBn hM hO hb0 hN hl hnb hnm hc hchk
  go_enter Try.func22, Try.ntmps22
  go_upto_region 4 with (go_at_call 59; refine HC.out.mono ?_; rintro e w1 ⟨rfl, hb1⟩; have HB1 := Lib.hid hb1; clear hb1)
  have HBW := Lib.hid (HB0.out.trans (HB1.out.mono (by simp)))
  have HBN1 := Lib.hid (HBN.out.below HB1.out HBN.out.lt)
  have HCL := Lib.hid (fun (W : World) (hW : Below w1.heap.size w1 W) => (show W.cell? ⟨w.heap.size, 0, none⟩ = some (.slice Ab nb cb) ∧ W.cell? ⟨w.heap.size, 1, none⟩ = some (.slice Am nm cm) from ⟨(HBN1.out.below hW HBN1.out.lt).cell 0, (HBN1.out.below hW HBN1.out.lt).cell 1⟩))
  have HMW := Lib.hid (fun (W : World) (hW : Below w1.heap.size w1 W) => HM.out.old (HBW.out.trans (hW.mono HBW.out.size)))
  have HOW := Lib.hid (fun (W : World) (hW : Below w1.heap.size w1 W) => HO.out.old (HBW.out.trans (hW.mono HBW.out.size)))
  clear c0 c1
  obtain ⟨wo, rfl⟩ : ∃ wo : World, wo = w1 := ⟨_, rfl⟩
  go_wp2_with fail
  go_loopw [7, 8] (fun v i wr => ∃ (k c : Nat) (A : Option Addr) (ks : List (SlE Span)), k ≤ no ∧ i = .int .i64 k ∧ v = .slice A ks.length c ∧ ks.length = k ∧ ks.map (·.l) = (l.take k).map (fun s => reachT bs ms [s]) ∧ wr.ownsRow wo.heap.size 44 1 (.slice A ks.length c) ks.length (ks.flatMap encE) ∧ SpansQ wr (.slice A ks.length c) nb ks ∧ Below wo.heap.size wo wr) (fun _ i _ => no - (intOf i).toNat)
  case atStart => exact ⟨0, 0, none, [], Nat.zero_le _, rfl, rfl, rfl, rfl, World.ownsRow_nil _ _ _ _, fun x hx => (by cases hx), Below.refl _ _⟩
  case round =>
    obtain ⟨k, cK, AK, ks, hk, rfl, rfl, hkl, hks, hown, hsp, hB⟩ := hrel
    have HKL := Lib.hid hkl
    have HKS := Lib.hid hks
    have HOWN := Lib.hid hown
    have HSP := Lib.hid hsp
    have HB := Lib.hid hB
    have hzr := hB.size
    have hkl8 : ks.length ≤ 8 := by omega
    clear hkl hks hown hsp hB
    by_cases hlt : k < no
    · have hltl : k < l.length := by have := HNO.out; omega
      obtain ⟨o, rfl, hsub⟩ := (HOW.out wr HB.out).sub1Q hltl
      have HTK := Lib.hid (List.take_succ_eq_append_getElem hltl)
      have hrg := HL.out.rg _ (List.getElem_mem hltl)
      generalize l[k] = x at hsub HTK hrg
      have HSUB := Lib.hid hsub
      have HONE := Lib.hid (show chkO bs ms [x] = 0 from chkO_zero HCK.out ⟨fun y hy => by rw [List.mem_singleton.1 hy]; exact hrg, List.pairwise_singleton ..⟩)
      have k0 : (0 : Int) ≤ (k : Int) := by omega
      have k1 : (k : Int) ≤ (k : Int) + 1 := by omega
      have k2 : (k : Int) + 1 ≤ (co : Int) := by omega
      have k3 : k ≤ k + 1 := by omega
      have k4 : k + 1 ≤ co := by omega
      have k5 : (k : Int) < (no : Int) := by omega
      clear hsub hrg
      go_upto_region 8 with fail
      have HKW := Lib.hid (show IntKind.i64.wrap ((k : Int) + 1) = (k : Int) + 1 from IntWalk.i64_in _ (by omega))
      have HCO := Lib.hid (show ¬ co = k by omega)
      have HT1 := Lib.hid (show ((k : Int) + 1).toNat - k = 1 by omega)
      have hM : Below wr.heap.size wr wr.drew := (Below.refl _ wr).drew
      have hMo : Below wo.heap.size wo wr.drew := HB.out.drew
      refine wp_region_PL [0] (fun W => W.cell? ⟨w.heap.size, 0, none⟩ = some (.slice Ab nb cb) ∧ W.cell? ⟨w.heap.size, 1, none⟩ = some (.slice Am nm cm)) rfl (by kernel_rfl) (HCL.out _ hMo) (fun hF0 => ?_)
      (refine wpAnyP_loadL (i := 0) (v := ?_) rfl (by kernel_rfl) (by kernel_rfl) (by kernel_rfl) (by rfl) (fun _ _ _ h => h) hF0 (by rfl) ?_ ?_; rotate_left 1; focus (intro w hFw; (try dsimp only at hFw); go_split_ands; go_simp; try with_reducible rfl))
      try simp only [Act.put, List.setIfInBounds_toArray, List.set_cons_zero, List.set_cons_succ]
      (refine wpAnyP_takeL (i := 1) (v := ?_) rfl (by kernel_rfl) (by kernel_rfl) (by kernel_rfl) (fun _ _ _ h => h) (by rfl) ?_ ?_; rotate_left 1; focus (intro w; go_simp; try with_reducible rfl))
      try simp only [Act.put, List.setIfInBounds_toArray, List.set_cons_zero, List.set_cons_succ]
      (refine wpAnyP_takeL (i := 2) (v := ?_) rfl (by kernel_rfl) (by kernel_rfl) (by kernel_rfl) (fun _ _ _ h => h) (by rfl) ?_ ?_; rotate_left 1; focus (intro w; go_simp; try with_reducible rfl))
      try simp only [Act.put, List.setIfInBounds_toArray, List.set_cons_zero, List.set_cons_succ]
      (refine wpAnyP_takeL (i := 3) (v := ?_) rfl (by kernel_rfl) (by kernel_rfl) (by kernel_rfl) (fun _ _ _ h => h) (by rfl) ?_ ?_; rotate_left 1; focus (intro w; go_simp; try with_reducible rfl))
      try simp only [Act.put, List.setIfInBounds_toArray, List.set_cons_zero, List.set_cons_succ]
      (refine wpAnyP_takeL (i := 4) (v := ?_) rfl (by kernel_rfl) (by kernel_rfl) (by kernel_rfl) (fun _ _ _ h => h) (by rfl) ?_ ?_; rotate_left 1; focus (intro w; go_simp; (rw [HKW.out])))
      try simp only [Act.put, List.setIfInBounds_toArray, List.set_cons_zero, List.set_cons_succ]
      (refine wpAnyP_takeL (i := 5) (v := ?_) rfl (by kernel_rfl) (by kernel_rfl) (by kernel_rfl) (fun _ _ _ h => h) (by rfl) ?_ ?_; rotate_left 1; focus (intro w; go_simp; (rw [if_neg HCO.out])))
      try simp only [Act.put, List.setIfInBounds_toArray, List.set_cons_zero, List.set_cons_succ]
      refine wpAnyP_last (i := 6) rfl (by kernel_rfl) (by kernel_rfl) (by rfl) (fun K hK => ?_)
      go_simp
      (refine (qReach_ok b1 b2 b3 Ab Am _ nb cb nm cm 1 _ bs ms [x] _ (HMW.out _ hMo) (HSUB.out.old hM) HONE.out).mono ?_; rintro e w6 ⟨A6, c6, b6, rfl, hs6, hb6z, hB6⟩; have HB6Z := Lib.hid (show wr.heap.size ≤ b6 from hb6z); clear hb6z; have hb6 := hM.trans hB6; have HA6 := Lib.hid hs6; have HB6 := Lib.hid hb6; clear hb6 hB6 hs6)
      (refine hK _ _ ?_; clear hK K)
      try simp only [Act.put, List.setIfInBounds_toArray, List.set_cons_zero, List.set_cons_succ]
      (refine wpAnyP_takeL (i := 7) (v := ?_) rfl (by kernel_rfl) (by kernel_rfl) (by kernel_rfl) (fun _ _ _ h => h) (by rfl) ?_ ?_; rotate_left 1; focus (intro w; go_simp; try with_reducible rfl))
      try simp only [Act.put, List.setIfInBounds_toArray, List.set_cons_zero, List.set_cons_succ]
      (refine wpAnyP_takeL (i := 8) (v := ?_) rfl (by kernel_rfl) (by kernel_rfl) (by kernel_rfl) (fun _ _ _ h => h) (by rfl) ?_ ?_; rotate_left 1; focus (intro w; go_simp; try with_reducible rfl))
      try simp only [Act.put, List.setIfInBounds_toArray, List.set_cons_zero, List.set_cons_succ]
      (refine wpAnyP_takeL (i := 9) (v := ?_) rfl (by kernel_rfl) (by kernel_rfl) (by kernel_rfl) (fun _ _ _ h => h) (by rfl) ?_ ?_; rotate_left 1; focus (intro w; go_simp; try with_reducible rfl))
      try simp only [Act.put, List.setIfInBounds_toArray, List.set_cons_zero, List.set_cons_succ]
      (refine wpAnyP_takeL (i := 10) (v := ?_) rfl (by kernel_rfl) (by kernel_rfl) (by kernel_rfl) (fun _ _ _ h => h) (by rfl) ?_ ?_; rotate_left 1; focus (intro w; go_simp; try with_reducible rfl))
      try simp only [Act.put, List.setIfInBounds_toArray, List.set_cons_zero, List.set_cons_succ]
      (refine wpAnyP_takeL (i := 11) (v := ?_) rfl (by kernel_rfl) (by kernel_rfl) (by kernel_rfl) (fun _ _ _ h => h) (by rfl) ?_ ?_; rotate_left 1; focus (intro w; go_simp; try with_reducible rfl))
      try simp only [Act.put, List.setIfInBounds_toArray, List.set_cons_zero, List.set_cons_succ]
      refine wpAnyP_done (by kernel_rfl) ?_ _
      have hz6 : wr.heap.size ≤ w6.heap.size := HB6.out.size
      have HOA := Lib.hid ((ownsRow_below HOWN.out HB6.out (Nat.le_refl _)).alloc (.cells #[.slice A6 nb c6] 44))
      clear hM hMo
      go_wp2_with (at_builtin; refine wpList_append_sl rfl _ _ 51 rfl wo.heap.size 44 i1 _ 24 Try.underlying51 hi1 jz0 jz1 jz2 rfl (by omega) encE_len _ ks.length _ rfl HOA.out w6.heap.size _ 1 1 [(⟨A6, nb, c6, b6, reachT bs ms [x]⟩ : SlE Span)] rfl (Sl.new encE_len w6 [(⟨A6, nb, c6, b6, reachT bs ms [x]⟩ : SlE Span)] 44 _ rfl) oneE (by unfold maxLen; omega) (by omega) (by simp only [World.size_alloc]; omega) ?_; intro A7 c7 w7 hO7 hg7 hat; have HO7 := Lib.hid hO7; have HG7 := Lib.hid hg7; have HAT := Lib.hid hat; clear hO7 hg7 hat)
      have hb7 : Below w6.heap.size w6 (w6.alloc (.cells #[.slice A6 nb c6] 44)) := (Below.refl _ w6).alloc (Nat.le_refl _) _
      have hownz : ∀ g, (Value.slice AK ks.length cK).ownBlock = some g → wo.heap.size ≤ g ∧ g < wr.heap.size := fun g e => HOWN.out.lt g e
      have hL0 : SpansQ (w6.alloc (.cells #[.slice A6 nb c6] 44)) (.slice AK ks.length cK) nb (ks ++ [⟨A6, nb, c6, b6, reachT bs ms [x]⟩]) := fun y hy => by
        rcases List.mem_append.1 hy with h | h
        · exact (HSP.out.old HB6.out).old hb7 y h
        · rw [List.mem_singleton.1 h]
          exact ⟨HA6.out.old hb7, rfl, fun g e => by have := hownz g e; have := HB6Z.out; show g ≠ b6; omega⟩
      have HSF := Lib.hid (hL0.turn hn0 HG7.out HAT.out)
      have HB7 := Lib.hid (below_own HOA.out HG7.out ((HB.out.trans (HB6.out.mono hzr)).trans (hb7.mono (by omega))) (Nat.le_refl _) (Nat.le_refl _))
      have e : ks.length + 1 = (ks ++ [(⟨A6, nb, c6, b6, reachT bs ms [x]⟩ : SlE Span)]).length := by simp
      have hO7 := HO7.out
      rw [← List.flatMap_append, e] at hO7
      rw [e]
      go_roundw
      case rel =>
        refine ⟨k + 1, c7, A7, ks ++ [⟨A6, nb, c6, b6, reachT bs ms [x]⟩], by omega, by go_num, rfl, by have := HKL.out; simp; omega, ?_, hO7, by have h := HSF.out; rw [e] at h; exact h, HB7.out⟩
        rw [List.map_append, HKS.out, HTK.out, List.map_append]; rfl
      case measure => simp [intOf]; omega
    · obtain rfl : k = no := by omega
      have hks2 : ks.map (·.l) = knownT bs ms l := by rw [HKS.out, List.take_of_length_le (by have := HNO.out; omega)]; rfl
      obtain ⟨bK, _, hsK⟩ := Sl.of_own (enc := encE) encE_len rfl HOWN.out
      have HKN := Lib.hid (show KnownAt wr bK ks.length nb AK ks from ⟨hsK, fun x hx => ⟨(HSP.out x hx).1, (HSP.out x hx).2.1⟩⟩)
      have HK2 := Lib.hid hks2
      have HSA := Lib.hid (show samplesT bs ms l = sampT nb (knownT bs ms l) from by unfold samplesT; rw [HNB.out])
      have HCW := Lib.hid (fun (W : World) (hW : Below wr.heap.size wr W) => HCL.out W (HB.out.trans (hW.mono hzr)))
      have HWR := Lib.hid (HBW.out.trans (HB.out.mono HBW.out.size))
      clear hks2 hsK
      obtain ⟨wq, rfl⟩ : ∃ wq : World, wq = wr := ⟨_, rfl⟩
      go_wp2_with fail
      go_loopw [11] (fun i wr => ∃ many : Nat, many ≤ nb + 1 ∧ i = .int .i64 many ∧ Below wq.heap.size wq wr ∧ ∀ j, j < many → ∀ y ∈ choT nb j 0, apartT (knownT bs ms l) y = false) (fun i _ => nb + 1 - (intOf i).toNat)
      case atStart => exact ⟨0, Nat.zero_le _, rfl, Below.refl _ _, fun j hj => absurd hj (Nat.not_lt_zero _)⟩
      case round =>
        obtain ⟨many, hmany, rfl, hB2, hno⟩ := hrel
        have HB2 := Lib.hid hB2
        have HNOT := Lib.hid hno
        obtain ⟨c0, c1⟩ := HCW.out wr hB2
        clear hB2 hno
        by_cases hle : many ≤ nb
        · have hle2 : (many : Int) ≤ (nb : Int) := by omega
          go_wp2_with fail
          refine (rchoices_any nb hnb8 many 0 _ (by omega) (Nat.zero_le _)).mono ?_
          rintro e w8 ⟨A8, c8, b8, cs, rfl, hs8, _, hcs, hcr, hB8⟩
          have HB8 := Lib.hid (HB2.out.trans (hB8.mono HB2.out.size))
          have HC8 := Lib.hid hs8
          have HCS := Lib.hid (show cs.map (·.l) = choT nb many 0 from hcs)
          have HCR := Lib.hid (show ∀ x ∈ cs, Sl encI 1 w8 x.b x.A x.n x.l from fun x hx => (hcr x hx).1)
          have hcsl : cs.length ≤ 16777216 := by have := choT_small hnb8 (show many ≤ 8 by omega) 0; rw [← show cs.map (·.l) = choT nb many 0 from hcs, List.length_map] at this; exact this
          clear hs8 hcs hcr hB8 c0 c1
          obtain ⟨wp, rfl⟩ : ∃ wp : World, wp = w8 := ⟨_, rfl⟩
          go_wp2_with fail
          go_loopw [13] (fun i wi => ∃ j : Nat, j ≤ cs.length ∧ i = .int .i64 j ∧ Below wp.heap.size wp wi ∧ ∀ y ∈ (choT nb many 0).take j, apartT (knownT bs ms l) y = false) (fun i _ => cs.length - (intOf i).toNat)
          case atStart => exact ⟨0, Nat.zero_le _, rfl, Below.refl _ _, fun y hy => (by cases hy)⟩
          case round =>
            obtain ⟨j, hj, rfl, hB9, hnj⟩ := hrel
            have HB9 := Lib.hid hB9
            have HNJ := Lib.hid hnj
            have HBA := Lib.hid (HB8.out.trans (hB9.mono HB8.out.size))
            clear hB9 hnj
            by_cases hlt2 : j < cs.length
            · obtain ⟨o, rfl, hbz, s0⟩ := (HC8.out.old HB9.out).atE hlt2
              have hR2 := (HCR.out cs[j] (List.getElem_mem hlt2)).old HB9.out
              have hlen : (choT nb many 0).length = cs.length := by rw [← HCS.out, List.length_map]
              have hel : (choT nb many 0)[j]'(by omega) = (cs[j]).l := by
                have h1 := HCS.out
                have h2 : (cs.map (·.l))[j]'(by rw [List.length_map]; exact hlt2) = (cs[j]).l := by simp
                rw [← h2]
                exact (List.getElem_of_eq h1 _).symm
              have hxm : (cs[j]).l ∈ choT nb many 0 := by rw [← hel]; exact List.getElem_mem _
              have hmem := choT_mem hxm
              have hcl := choT_len hxm
              have hsplit : choT nb many 0 = (choT nb many 0).take j ++ (cs[j]).l :: (choT nb many 0).drop (j + 1) := by
                rw [← hel, ← List.drop_eq_getElem_cons, List.take_append_drop]
              have htk : (choT nb many 0).take (j + 1) = (choT nb many 0).take j ++ [(cs[j]).l] := by
                rw [List.take_succ_eq_append_getElem (by omega), hel]
              generalize cs[j] = x at s0 hR2 hmem hcl hsplit htk
              obtain ⟨xA, xn, xc, xb, xl⟩ := x
              simp only at s0 hR2 hmem hcl hsplit htk
              have hxn : xn ≤ 8 := by have := hR2.len; omega
              have HR2 := Lib.hid hR2
              have HSPL := Lib.hid hsplit
              have HTK := Lib.hid htk
              have HMM := Lib.hid hmem
              have j0 : (0 : Int) ≤ (j : Int) := by omega
              have j1 : (j : Int) < (cs.length : Int) := by omega
              clear hR2 hlen hel hxm hsplit htk hmem
              go_wp2_with fail
              refine (rapart_any bK ks.length cK nb xb xn xc AK xA ks xl _ (HKN.out.old HBA.out) HR2.out (by omega) (by omega) (by omega) HMM.out).mono ?_
              rw [HK2.out]
              rintro e w9 ⟨rfl, hB10⟩
              have HX9 := Lib.hid (HR2.out.old hB10)
              have HB10 := Lib.hid (HB9.out.trans (hB10.mono HB9.out.size))
              have s9 : w9.cell? ⟨b8, o + j, none⟩ = some (.slice xA xn xc) := (hB10.cell (p := ⟨b8, o + j, none⟩) hbz).trans s0
              clear hB10 s0
              cases hap : apartT (knownT bs ms l) xl with
              | true =>
                have hone := samp_hit hle HNOT.out HSPL.out HNJ.out hap
                have HOUT := Lib.hid (show SamOut bs ms l w (.returned (.tuple #[.slice xA xn xc, .int .i64 0])) w9 from SamOut.yes (HSA.out.trans hone) HX9.out (by omega) (HWR.out.trans ((HB8.out.trans (HB10.out.mono HB8.out.size)).mono HWR.out.size)))
                clear hone hap
                go_wp2_with fail
                go_ret2
                exact HOUT.out
              | false =>
                have HAP := Lib.hid hap
                clear hap
                go_wp2_with fail
                refine ⟨⟨j + 1, by omega, by go_num, HB10.out, fun y hy => ?_⟩, by simp [intOf]; omega⟩
                rw [HTK.out] at hy
                rcases List.mem_append.1 hy with h | h
                · exact HNJ.out y h
                · rw [List.mem_singleton.1 h]; exact HAP.out
            · obtain rfl : j = cs.length := by omega
              have hlen : (choT nb many 0).length = cs.length := by rw [← HCS.out, List.length_map]
              have HALL := Lib.hid (show ∀ y ∈ choT nb many 0, apartT (knownT bs ms l) y = false from fun y hy => HNJ.out y (by rw [← hlen, List.take_length]; exact hy))
              clear hlen
              go_wp2_with fail
              refine ⟨⟨many + 1, by omega, by go_num, HBA.out, fun j' hj' y hy => ?_⟩, by simp [intOf]; omega⟩
              by_cases hjm : j' = many
              · subst hjm; exact HALL.out y hy
              · exact HNOT.out j' (by omega) y hy
        · have hle2 : ¬ (many : Int) ≤ (nb : Int) := by omega
          have hnone : samplesT bs ms l = none := by rw [HSA.out]; exact samp_none fun j hj => HNOT.out j (by omega)
          have HOUT := Lib.hid (show SamOut bs ms l w (.returned (.tuple #[.slice none 0 0, .int .i64 3])) wr from SamOut.no hnone (HWR.out.trans (HB2.out.mono HWR.out.size)))
          clear hnone
          go_wp2_with fail
          go_ret2
          exact HOUT.out
set_option maxHeartbeats 1000000 in
theorem qSamples_err (b1 b2 b3 : Nat) (Ab Am Ao : Option Addr) (nb cb nm cm no co : Nat) (bs : List Int) (ms : List Mv) (l : List Int) (w : World) (hM : NetM w b1 b2 Ab Am nb cb nm cm bs ms) (hnb : nb ≤ 100000) (hnm : nm ≤ 100000) (hO : Sl encI 1 w b3 Ao no l) (hno : no ≤ 100000) (hc : chkO bs ms l ≠ 0) :
    Calls Try.prog 22 #[netV Ab Am nb cb nm cm, .slice Ao no co] w fun e w' => e = .returned (.tuple #[.slice none 0 0, .int .i64 (chkO bs ms l)]) ∧ Below w.heap.size w w' := by
  have hBn := Blk.new w 25 #[.slice Ab nb cb, .slice Am nm cm]
  have c0 := hBn.cell 0
  have c1 := hBn.cell 1
  have hb0 : Below w.heap.size w (w.alloc (.cells #[.slice Ab nb cb, .slice Am nm cm] 25)) := (Below.refl _ w).alloc (Nat.le_refl _) _
  have hcon := qcheckO_any b1 b2 b3 Ab Am Ao nb cb nm cm no co bs ms l _ (hM.old hb0) hnb hnm (hO.old hb0) hno
  obtain ⟨x, hx⟩ : ∃ x, x = chkO bs ms l := ⟨_, rfl⟩
  rw [← hx] at hcon hc ⊢
  have hxx : (x == 0) = false := by simp [hc]
  have hxx2 : (x != 0) = true := by simp [hc]
  have HC := Lib.hid hcon
  have HB0 := Lib.hid hb0
  clear hcon hx hc hBn hM hO hb0
  go_enter Try.func22, Try.ntmps22
  go_wp2_with (go_at_call 59; refine HC.out.mono ?_; rintro e w1 ⟨rfl, hb1⟩; have HB1 := Lib.hid hb1; clear hb1)
  go_ret2
  exact ⟨rfl, HB0.out.trans (HB1.out.mono (by simp))⟩
section
variable {b1 b2 b3 nb cb nm cm no co : Nat} {Ab Am Ao : Option Addr} {bs : List Int} {ms : List Mv} {l : List Int} {w : World}
theorem samplesU (hM : NetM w b1 b2 Ab Am nb cb nm cm bs ms) (hnb : nb ≤ 100000) (hnm : nm ≤ 100000) (hO : Sl encI 1 w b3 Ao no l) (hno : no ≤ 100000) (hco : no ≤ co) : Calls Try.prog 21 #[netV Ab Am nb cb nm cm, .slice Ao no co] w (AnsI (chkS bs ms l) ((samplesT bs ms l).getD []) w) := by
  by_cases hc : chkO bs ms l = 0
  · have e : chkS bs ms l = if (samplesT bs ms l).isSome then 0 else 3 := by unfold chkS; rw [if_pos hc]
    rw [e]
    exact (Samples_ok b1 b2 b3 Ab Am Ao nb cb nm cm no co bs ms l w hM hO hco hc).mono fun e w' h => SamPost.out h (chkO_in hc).1.n1
  · have e : chkS bs ms l = chkO bs ms l := by unfold chkS; rw [if_neg hc]
    rw [e]
    exact (Samples_err b1 b2 b3 Ab Am Ao nb cb nm cm no co bs ms l w hM hnb hnm hO hno hc).mono fun e w' h => AnsI.err hc h
theorem qsamplesU (hM : NetM w b1 b2 Ab Am nb cb nm cm bs ms) (hnb : nb ≤ 100000) (hnm : nm ≤ 100000) (hO : Sl encI 1 w b3 Ao no l) (hno : no ≤ 100000) (hco : no ≤ co) : Calls Try.prog 22 #[netV Ab Am nb cb nm cm, .slice Ao no co] w (AnsI (chkS bs ms l) ((samplesT bs ms l).getD []) w) := by
  by_cases hc : chkO bs ms l = 0
  · have e : chkS bs ms l = if (samplesT bs ms l).isSome then 0 else 3 := by unfold chkS; rw [if_pos hc]
    rw [e]
    exact qSamples_ok b1 b2 b3 Ab Am Ao nb cb nm cm no co bs ms l w hM hO hco hc
  · have e : chkS bs ms l = chkO bs ms l := by unfold chkS; rw [if_neg hc]
    rw [e]
    exact (qSamples_err b1 b2 b3 Ab Am Ao nb cb nm cm no co bs ms l w hM hnb hnm hO hno hc).mono fun e w' h => AnsI.err hc h
end
end Go.Proofs.Ytkphgdkjjklajaa

namespace Go.Proofs.Ytkphgdkjjklajaa
open Go.RowKit Go.Shelf Go.Sort

set_option maxRecDepth 100000 in
set_option maxHeartbeats 4000000 in
theorem traceSamples_any (Ab Am : Option Addr) (nb cb nm cm b1 b2 : Nat) (bs : List Int) (ms : List Mv) (Ao : Option Addr) (no co b3 : Nat) (l : List Int) (A : Option Addr) (n c : Nat) (w : World) (hM : NetM w b1 b2 Ab Am nb cb nm cm bs ms) (hO : Sl encI 1 w b3 Ao no l) (hco : no ≤ co) (hN : Nums w A n) :
    Calls Try.prog 3 #[netV Ab Am nb cb nm cm, .slice Ao no co, .slice A n c] w fun e w' => e = .returned (.bool true) ∧ Below w.heap.size w w' := by
  have hBx := Blk.new w 25 #[.slice Ab nb cb, .slice Am nm cm]
  have hb0 : Below w.heap.size w (w.alloc (.cells #[.slice Ab nb cb, .slice Am nm cm] 25)) := (Below.refl _ w).alloc (Nat.le_refl _) _
  have HB0 := Lib.hid hb0
  have HBX := Lib.hid hBx
  have HM := Lib.hid hM
  have HO := Lib.hid hO
  have HNU := Lib.hid hN
  have c0 := hBx.cell 0
  have c1 := hBx.cell 1
  have hva := fun W => vast_any nb cb nm cm Ab Am W
  clear hb0 hBx hM hO hN
  by_cases hv : nb ≤ 20 ∧ nm ≤ 30
  · rw [vast_no hv] at hva
    have HVA := Lib.hid hva
    have HV := Lib.hid hv
    clear hva hv
    by_cases hno : no ≤ 20
    · have dno : decide ((20 : Int) < (no : Int)) = false := by simp; omega
      go_enter Try.func3, Try.ntmps3
      go_upto_region 3 with (go_at_call 13; refine (HVA.out _).mono ?_; rintro e w1 ⟨rfl, hb1⟩; have HB1 := Lib.hid hb1; clear hb1)
      have HW1 := Lib.hid (HB0.out.trans (HB1.out.mono (by simp)))
      have HBX1 := Lib.hid (HBX.out.below HB1.out HBX.out.lt)
      clear c0 c1
      obtain ⟨wv, rfl⟩ : ∃ wv : World, wv = w1 := ⟨_, rfl⟩
      obtain ⟨bN, l0, hl0, hw0, hn0⟩ := HNU.out
      go_wp2_with fail
      refine (dieOf_any bN n c A l0 _ (hl0.old HW1.out) hn0 hw0).mono ?_
      rintro e w1 ⟨d, hd, rfl, hdie, hB1⟩
      have HBD := Lib.hid hB1
      have hz1 := hB1.size
      clear hl0 hw0 hB1
      go_wp2_with fail
      refine (one_any d _ 2 2 _ [5, 60] _ (hdie.alloc _) (Sl.newI w1 [5, 60] 3) (by omega) (by omega) (by have := hdie.lt; omega)).mono ?_
      rintro e w2 ⟨g, hg, rfl, hd2, hg2⟩
      have hgb : 0 ≤ g ∧ g ≤ 1000000 := by simp at hg; omega
      have HG2 := Lib.hid (only_step hg2 (only_alloc (only_refl w1 d) _) (.inl rfl))
      clear hg hg2
      go_wp2_with fail
      refine (netOf_any d 6 6 g _ hd2 (by omega) (by omega) (by omega) hgb.1 hgb.2).mono ?_
      rintro e w3 ⟨es, hs, e1, e2, Ae, Ah, ne, ce, nh, ch, hNI, hne, hnh, rfl, hNM, he1, he2, hd3, hg3⟩
      have hz2 := HG2.out.size
      have hdz2 := hd2.lt
      have hg13 := only_trans HG2.out hg3
      have hz3 := hg3.size
      have HB3 := Lib.hid (Below.stepG hg13 HBD.out (Nat.le_refl _) hd)
      have hnm3 := hNM.old ((Below.refl _ w3).alloc (Nat.le_refl _) (.cells #[.slice Ae ne ce, .slice Ah nh ch] 25))
      have hbk3 := Blk.new w3 25 #[.slice Ae ne ce, .slice Ah nh ch]
      have HNB := Lib.hid hNM.b.len
      have HNH := Lib.hid hNM.m.len
      have HNI := Lib.hid hNI
      have c0 := hbk3.cell 0
      have c1 := hbk3.cell 1
      have hd3lt : d < w3.heap.size := hd3.lt
      have HD3 := Lib.hid (hd3.alloc (.cells #[.slice Ae ne ce, .slice Ah nh ch] 25))
      have HBK3 := Lib.hid hbk3
      have HNM3 := Lib.hid hnm3
      have HEN := Lib.hid (show (0 < ne → e1 ≠ d) ∧ (0 < nh → e2 ≠ d) from ⟨fun _ e => by omega, fun _ e => by omega⟩)
      clear hd2 hNM hNI hd3 hg3 hg13 hnm3 hbk3 hdie
      have HB3V := Lib.hid (HB3.out.alloc HB3.out.size (.cells #[.slice Ae ne ce, .slice Ah nh ch] 25))
      go_upto_region 5 with fail
      clear c0 c1
      obtain ⟨V, hVe⟩ : ∃ V, w3.alloc (.cells #[.slice Ae ne ce, .slice Ah nh ch] 25) = V := ⟨_, rfl⟩
      rw [hVe] at HD3 HBK3 HNM3 HB3V ⊢
      clear hVe
      have HBVW := Lib.hid (show Below w.heap.size w V from HW1.out.trans (HB3V.out.mono HW1.out.size))
      have HX4 := Lib.hid (HBX1.out.below HB3V.out HBX1.out.lt)
      have hwd : w.heap.size ≤ d := by have := HW1.out.size; omega
      have HXA := Lib.hid (show NArg.Ok ⟨b1, b2, b3, Ab, Am, Ao, nb, cb, nm, cm, no, co, bs, ms, l⟩ V from
        ⟨HM.out.old HBVW.out, HO.out.old HBVW.out, by have := HV.out; show nb ≤ 100; omega, by have := HV.out; show nm ≤ 100; omega, by show no ≤ 100; omega, hco⟩)
      have HXD := Lib.hid (fun (W : World) (hW : V.grownBy W (some d)) => HXA.out.dieTo hW (fun h => by have := HM.out.b.lt h; show b1 ≠ d; omega) (fun h => by have := HM.out.m.lt h; show b2 ≠ d; omega) (fun h => by have := HO.out.lt h; show b3 ≠ d; omega))
      have HYD := Lib.hid (fun (W : World) (hW : V.grownBy W (some d)) => (show NetM W e1 e2 Ae Ah ne ce nh ch es hs from ⟨HNM3.out.b.grown hW (fun h e => HEN.out.1 h (by injection e)), HNM3.out.m.grown hW (fun h e => HEN.out.2 h (by injection e)), HNM3.out.cb, HNM3.out.cm⟩))
      have HF := Lib.hid (fun (W : World) (hW : Md V W d) => (show (W.cell? ⟨w.heap.size, 0, none⟩ = some (.slice Ab nb cb) ∧ W.cell? ⟨w.heap.size, 1, none⟩ = some (.slice Am nm cm)) ∧ (W.cell? ⟨w3.heap.size, 0, none⟩ = some (.slice Ae ne ce) ∧ W.cell? ⟨w3.heap.size, 1, none⟩ = some (.slice Ah nh ch)) from by
        have h1 := HX4.out.grown hW.g (fun e => by injection e with e; have := HBX1.out.lt; omega)
        have h2 := HBK3.out.grown hW.g (fun e => by have := hd3lt; injection e with e; omega)
        exact ⟨⟨h1.cell 0, h1.cell 1⟩, ⟨h2.cell 0, h2.cell 1⟩⟩))
      go_cut [9, 10] from 33 to 42 (fun p q wx => ∃ (X Y b4 ck : Nat) (k : List Int) (Ak : Option Addr), p = .slice (some ⟨X, 0, none⟩) 3 3 ∧ q = .slice (some ⟨Y, 0, none⟩) 3 3 ∧ Rw d wx X 25 #[.slice Ab nb cb, .slice Am nm cm, .slice Ae ne ce, .slice Ah nh ch, .slice Ae ne ce, .slice Ah nh ch] ∧ Rw d wx Y 22 #[.slice Ao no co, .slice Ak k.length ck, .slice Ao no co] ∧ Sl encI 1 wx b4 Ak k.length k ∧ k.length ≤ 8 ∧ k.length ≤ ck ∧ Md V wx d)
      case first =>
        have hM : Md V V.drew d := ⟨only_drew (only_refl V d), HD3.out⟩
        refine wp_region_K2 [0, 1, 2, 6] [] (fun W => (W.cell? ⟨w.heap.size, 0, none⟩ = some (.slice Ab nb cb) ∧ W.cell? ⟨w.heap.size, 1, none⟩ = some (.slice Am nm cm)) ∧ (W.cell? ⟨w3.heap.size, 0, none⟩ = some (.slice Ae ne ce) ∧ W.cell? ⟨w3.heap.size, 1, none⟩ = some (.slice Ah nh ch))) (fun _ => True) rfl (by kernel_rfl) (HF.out _ hM) (trivial) (fun hF0 hG0 => ?_)
        (refine wpAnyK_loadL Keep2.refl (i := 0) (v := ?_) rfl (Keep2.left (i := 0) (by rfl)) (by kernel_rfl) (by kernel_rfl) (by kernel_rfl) (fun _ _ _ h => h) hF0 (by rfl) ?_ ?_; rotate_left 1; focus (intro w hFw; (try dsimp only at hFw); go_split_ands; go_simp; try with_reducible rfl))
        try simp only [Act.put, List.setIfInBounds_toArray, List.set_cons_zero, List.set_cons_succ]
        (refine wpAnyK_loadL Keep2.refl (i := 1) (v := ?_) rfl (Keep2.left (i := 1) (by rfl)) (by kernel_rfl) (by kernel_rfl) (by kernel_rfl) (fun _ _ _ h => h) hF0 (by rfl) ?_ ?_; rotate_left 1; focus (intro w hFw; (try dsimp only at hFw); go_split_ands; go_simp; try with_reducible rfl))
        try simp only [Act.put, List.setIfInBounds_toArray, List.set_cons_zero, List.set_cons_succ]
        (refine wpAnyK_loadL Keep2.refl (i := 2) (v := ?_) rfl (Keep2.left (i := 2) (by rfl)) (by kernel_rfl) (by kernel_rfl) (by kernel_rfl) (fun _ _ _ h => h) hF0 (by rfl) ?_ ?_; rotate_left 1; focus (intro w hFw; (try dsimp only at hFw); go_split_ands; go_simp; try with_reducible rfl))
        try simp only [Act.put, List.setIfInBounds_toArray, List.set_cons_zero, List.set_cons_succ]
        (refine wpAnyK_takeL Keep2.refl (i := 4) (v := ?_) rfl (by kernel_rfl) (by kernel_rfl) (by kernel_rfl) (fun _ _ _ h => h) (by rfl) ?_ ?_; rotate_left 1; focus (intro w; go_simp; try with_reducible rfl))
        try simp only [Act.put, List.setIfInBounds_toArray, List.set_cons_zero, List.set_cons_succ]
        (refine wpAnyK_takeL Keep2.refl (i := 5) (v := ?_) rfl (by kernel_rfl) (by kernel_rfl) (by kernel_rfl) (fun _ _ _ h => h) (by rfl) ?_ ?_; rotate_left 1; focus (intro w; go_simp; try with_reducible rfl))
        try simp only [Act.put, List.setIfInBounds_toArray, List.set_cons_zero, List.set_cons_succ]
        (refine wpAnyK_loadL Keep2.refl (i := 6) (v := ?_) rfl (Keep2.left (i := 6) (by rfl)) (by kernel_rfl) (by kernel_rfl) (by kernel_rfl) (fun _ _ _ h => h) hF0 (by rfl) ?_ ?_; rotate_left 1; focus (intro w hFw; (try dsimp only at hFw); go_split_ands; go_simp; try with_reducible rfl))
        try simp only [Act.put, List.setIfInBounds_toArray, List.set_cons_zero, List.set_cons_succ]
        (refine wpAnyK_takeL Keep2.refl (i := 8) (v := ?_) rfl (by kernel_rfl) (by kernel_rfl) (by kernel_rfl) (fun _ _ _ h => h) (by rfl) ?_ ?_; rotate_left 1; focus (intro w; go_simp; try with_reducible rfl))
        try simp only [Act.put, List.setIfInBounds_toArray, List.set_cons_zero, List.set_cons_succ]
        refine wpAnyK_all (rs := [3, 7]) (by kernel_rfl) (by simp) ?_
        refine List.forall_mem_cons.2 ⟨?_, List.forall_mem_cons.2 ⟨?_, fun _ h => absurd h List.not_mem_nil⟩⟩
        · refine wpOp_of rfl (by rfl) (fun K hK => ?_)
          go_simp
          (have hX := Rw.new hM.d.lt 25 #[.slice Ab nb cb, .slice Am nm cm, .slice Ae ne ce, .slice Ah nh ch, .slice Ae ne ce, .slice Ah nh ch]; (try simp only [World.size_drew, World.size_alloc] at hX); (try replace hY := hY.alloc (.cells #[.slice Ab nb cb, .slice Am nm cm, .slice Ae ne ce, .slice Ah nh ch, .slice Ae ne ce, .slice Ah nh ch] 25)); (try replace hKs := hKs.alloc (.cells #[.slice Ab nb cb, .slice Am nm cm, .slice Ae ne ce, .slice Ah nh ch, .slice Ae ne ce, .slice Ah nh ch] 25)); replace hM := hM.alloc (.cells #[.slice Ab nb cb, .slice Am nm cm, .slice Ae ne ce, .slice Ah nh ch, .slice Ae ne ce, .slice Ah nh ch] 25))
          (refine hK _ _ ⟨⟨fun _ _ => HF.out _ hM, fun h => absurd h (by decide)⟩, ?_⟩; clear hK K)
          (refine wpAnyK_with (F := fun W => (W.cell? ⟨w.heap.size, 0, none⟩ = some (.slice Ab nb cb) ∧ W.cell? ⟨w.heap.size, 1, none⟩ = some (.slice Am nm cm)) ∧ (W.cell? ⟨w3.heap.size, 0, none⟩ = some (.slice Ae ne ce) ∧ W.cell? ⟨w3.heap.size, 1, none⟩ = some (.slice Ah nh ch))) (HF.out _ hM) (fun hF1 => ?_); clear hF0)
          try simp only [Act.put, List.setIfInBounds_toArray, List.set_cons_zero, List.set_cons_succ]
          refine wpAnyK_step (i := 7) rfl (by kernel_rfl) (by rfl) (fun K hK => ?_)
          go_simp
          (refine (originsOf_any d ne ce nh ch Ae Ah _ hM.d (by omega)).mono ?_; rintro e w7 ⟨k, Ak, ck, hk, rfl, hok, hd7, hg7⟩; have hk8 : k.length ≤ 8 := orig_len hk.nodup hk.rg (by omega); have hck := own_capN hok; obtain ⟨b4, hb4, hKs⟩ := Sl.of_own (enc := encI) encI_len rfl hok; (try replace hX := hX.die hg7); replace hM := hM.cast hd7 hg7; clear hok hd7 hg7 hb4 hk)
          (refine hK _ _ (⟨fun _ _ => HF.out _ hM, fun h => absurd h (by decide)⟩) ?_; clear hK K)
          (refine wpAnyK_with (F := fun W => (W.cell? ⟨w.heap.size, 0, none⟩ = some (.slice Ab nb cb) ∧ W.cell? ⟨w.heap.size, 1, none⟩ = some (.slice Am nm cm)) ∧ (W.cell? ⟨w3.heap.size, 0, none⟩ = some (.slice Ae ne ce) ∧ W.cell? ⟨w3.heap.size, 1, none⟩ = some (.slice Ah nh ch))) (HF.out _ hM) (fun hF2 => ?_); clear hF1)
          try simp only [Act.put, List.setIfInBounds_toArray, List.set_cons_zero, List.set_cons_succ]
          (refine wpAnyK_takeL Keep2.refl (i := 10) (v := ?_) rfl (by kernel_rfl) (by kernel_rfl) (by kernel_rfl) (fun _ _ _ h => h) (by rfl) ?_ ?_; rotate_left 1; focus (intro w; go_simp; try with_reducible rfl))
          try simp only [Act.put, List.setIfInBounds_toArray, List.set_cons_zero, List.set_cons_succ]
          refine wpAnyK_step (i := 9) rfl (by kernel_rfl) (by rfl) (fun K hK => ?_)
          go_simp
          (have hY := Rw.new hM.d.lt 22 #[.slice Ao no co, .slice Ak k.length ck, .slice Ao no co]; (try simp only [World.size_drew, World.size_alloc] at hY); (try replace hX := hX.alloc (.cells #[.slice Ao no co, .slice Ak k.length ck, .slice Ao no co] 22)); (try replace hKs := hKs.alloc (.cells #[.slice Ao no co, .slice Ak k.length ck, .slice Ao no co] 22)); replace hM := hM.alloc (.cells #[.slice Ao no co, .slice Ak k.length ck, .slice Ao no co] 22))
          (refine hK _ _ (⟨fun _ _ => HF.out _ hM, fun h => absurd h (by decide)⟩) ?_; clear hK K)
          (refine wpAnyK_with (F := fun W => (W.cell? ⟨w.heap.size, 0, none⟩ = some (.slice Ab nb cb) ∧ W.cell? ⟨w.heap.size, 1, none⟩ = some (.slice Am nm cm)) ∧ (W.cell? ⟨w3.heap.size, 0, none⟩ = some (.slice Ae ne ce) ∧ W.cell? ⟨w3.heap.size, 1, none⟩ = some (.slice Ah nh ch))) (HF.out _ hM) (fun hF3 => ?_); clear hF2)
          try simp only [Act.put, List.setIfInBounds_toArray, List.set_cons_zero, List.set_cons_succ]
          (refine wpAnyK_takeL Keep2.refl (i := 11) (v := ?_) rfl (by kernel_rfl) (by kernel_rfl) (by kernel_rfl) (fun _ _ _ h => h) (by rfl) ?_ ?_; rotate_left 1; focus (intro w; go_simp; try with_reducible rfl))
          try simp only [Act.put, List.setIfInBounds_toArray, List.set_cons_zero, List.set_cons_succ]
          refine wpAnyK_done (by kernel_rfl) ?_ _
          go_wp2_with fail
          go_meet
          exact ⟨_, _, b4, ck, k, Ak, rfl, rfl, hX, hY, hKs, hk8, hck, hM⟩
        · refine wpOp_of rfl (by rfl) (fun K hK => ?_)
          go_simp
          (refine (originsOf_any d ne ce nh ch Ae Ah _ hM.d (by omega)).mono ?_; rintro e w7 ⟨k, Ak, ck, hk, rfl, hok, hd7, hg7⟩; have hk8 : k.length ≤ 8 := orig_len hk.nodup hk.rg (by omega); have hck := own_capN hok; obtain ⟨b4, hb4, hKs⟩ := Sl.of_own (enc := encI) encI_len rfl hok; (try replace hX := hX.die hg7); replace hM := hM.cast hd7 hg7; clear hok hd7 hg7 hb4 hk)
          (refine hK _ _ ⟨⟨fun _ _ => HF.out _ hM, fun h => absurd h (by decide)⟩, ?_⟩; clear hK K)
          (refine wpAnyK_with (F := fun W => (W.cell? ⟨w.heap.size, 0, none⟩ = some (.slice Ab nb cb) ∧ W.cell? ⟨w.heap.size, 1, none⟩ = some (.slice Am nm cm)) ∧ (W.cell? ⟨w3.heap.size, 0, none⟩ = some (.slice Ae ne ce) ∧ W.cell? ⟨w3.heap.size, 1, none⟩ = some (.slice Ah nh ch))) (HF.out _ hM) (fun hF4 => ?_); clear hF0)
          try simp only [Act.put, List.setIfInBounds_toArray, List.set_cons_zero, List.set_cons_succ]
          refine wpAnyK_all (rs := [3, 9]) (by kernel_rfl) (by simp) ?_
          refine List.forall_mem_cons.2 ⟨?_, List.forall_mem_cons.2 ⟨?_, fun _ h => absurd h List.not_mem_nil⟩⟩
          · refine wpOp_of rfl (by rfl) (fun K hK => ?_)
            go_simp
            (have hX := Rw.new hM.d.lt 25 #[.slice Ab nb cb, .slice Am nm cm, .slice Ae ne ce, .slice Ah nh ch, .slice Ae ne ce, .slice Ah nh ch]; (try simp only [World.size_drew, World.size_alloc] at hX); (try replace hY := hY.alloc (.cells #[.slice Ab nb cb, .slice Am nm cm, .slice Ae ne ce, .slice Ah nh ch, .slice Ae ne ce, .slice Ah nh ch] 25)); (try replace hKs := hKs.alloc (.cells #[.slice Ab nb cb, .slice Am nm cm, .slice Ae ne ce, .slice Ah nh ch, .slice Ae ne ce, .slice Ah nh ch] 25)); replace hM := hM.alloc (.cells #[.slice Ab nb cb, .slice Am nm cm, .slice Ae ne ce, .slice Ah nh ch, .slice Ae ne ce, .slice Ah nh ch] 25))
            (refine hK _ _ ⟨⟨fun _ _ => HF.out _ hM, fun h => absurd h (by decide)⟩, ?_⟩; clear hK K)
            (refine wpAnyK_with (F := fun W => (W.cell? ⟨w.heap.size, 0, none⟩ = some (.slice Ab nb cb) ∧ W.cell? ⟨w.heap.size, 1, none⟩ = some (.slice Am nm cm)) ∧ (W.cell? ⟨w3.heap.size, 0, none⟩ = some (.slice Ae ne ce) ∧ W.cell? ⟨w3.heap.size, 1, none⟩ = some (.slice Ah nh ch))) (HF.out _ hM) (fun hF5 => ?_); clear hF4)
            try simp only [Act.put, List.setIfInBounds_toArray, List.set_cons_zero, List.set_cons_succ]
            (refine wpAnyK_takeL Keep2.refl (i := 10) (v := ?_) rfl (by kernel_rfl) (by kernel_rfl) (by kernel_rfl) (fun _ _ _ h => h) (by rfl) ?_ ?_; rotate_left 1; focus (intro w; go_simp; try with_reducible rfl))
            try simp only [Act.put, List.setIfInBounds_toArray, List.set_cons_zero, List.set_cons_succ]
            refine wpAnyK_step (i := 9) rfl (by kernel_rfl) (by rfl) (fun K hK => ?_)
            go_simp
            (have hY := Rw.new hM.d.lt 22 #[.slice Ao no co, .slice Ak k.length ck, .slice Ao no co]; (try simp only [World.size_drew, World.size_alloc] at hY); (try replace hX := hX.alloc (.cells #[.slice Ao no co, .slice Ak k.length ck, .slice Ao no co] 22)); (try replace hKs := hKs.alloc (.cells #[.slice Ao no co, .slice Ak k.length ck, .slice Ao no co] 22)); replace hM := hM.alloc (.cells #[.slice Ao no co, .slice Ak k.length ck, .slice Ao no co] 22))
            (refine hK _ _ (⟨fun _ _ => HF.out _ hM, fun h => absurd h (by decide)⟩) ?_; clear hK K)
            (refine wpAnyK_with (F := fun W => (W.cell? ⟨w.heap.size, 0, none⟩ = some (.slice Ab nb cb) ∧ W.cell? ⟨w.heap.size, 1, none⟩ = some (.slice Am nm cm)) ∧ (W.cell? ⟨w3.heap.size, 0, none⟩ = some (.slice Ae ne ce) ∧ W.cell? ⟨w3.heap.size, 1, none⟩ = some (.slice Ah nh ch))) (HF.out _ hM) (fun hF6 => ?_); clear hF5)
            try simp only [Act.put, List.setIfInBounds_toArray, List.set_cons_zero, List.set_cons_succ]
            (refine wpAnyK_takeL Keep2.refl (i := 11) (v := ?_) rfl (by kernel_rfl) (by kernel_rfl) (by kernel_rfl) (fun _ _ _ h => h) (by rfl) ?_ ?_; rotate_left 1; focus (intro w; go_simp; try with_reducible rfl))
            try simp only [Act.put, List.setIfInBounds_toArray, List.set_cons_zero, List.set_cons_succ]
            refine wpAnyK_done (by kernel_rfl) ?_ _
            go_wp2_with fail
            go_meet
            exact ⟨_, _, b4, ck, k, Ak, rfl, rfl, hX, hY, hKs, hk8, hck, hM⟩
          · refine wpOp_of rfl (by rfl) (fun K hK => ?_)
            go_simp
            (have hY := Rw.new hM.d.lt 22 #[.slice Ao no co, .slice Ak k.length ck, .slice Ao no co]; (try simp only [World.size_drew, World.size_alloc] at hY); (try replace hX := hX.alloc (.cells #[.slice Ao no co, .slice Ak k.length ck, .slice Ao no co] 22)); (try replace hKs := hKs.alloc (.cells #[.slice Ao no co, .slice Ak k.length ck, .slice Ao no co] 22)); replace hM := hM.alloc (.cells #[.slice Ao no co, .slice Ak k.length ck, .slice Ao no co] 22))
            (refine hK _ _ ⟨⟨fun _ _ => HF.out _ hM, fun h => absurd h (by decide)⟩, ?_⟩; clear hK K)
            (refine wpAnyK_with (F := fun W => (W.cell? ⟨w.heap.size, 0, none⟩ = some (.slice Ab nb cb) ∧ W.cell? ⟨w.heap.size, 1, none⟩ = some (.slice Am nm cm)) ∧ (W.cell? ⟨w3.heap.size, 0, none⟩ = some (.slice Ae ne ce) ∧ W.cell? ⟨w3.heap.size, 1, none⟩ = some (.slice Ah nh ch))) (HF.out _ hM) (fun hF7 => ?_); clear hF4)
            try simp only [Act.put, List.setIfInBounds_toArray, List.set_cons_zero, List.set_cons_succ]
            refine wpAnyK_step (i := 3) rfl (by kernel_rfl) (by rfl) (fun K hK => ?_)
            go_simp
            (have hX := Rw.new hM.d.lt 25 #[.slice Ab nb cb, .slice Am nm cm, .slice Ae ne ce, .slice Ah nh ch, .slice Ae ne ce, .slice Ah nh ch]; (try simp only [World.size_drew, World.size_alloc] at hX); (try replace hY := hY.alloc (.cells #[.slice Ab nb cb, .slice Am nm cm, .slice Ae ne ce, .slice Ah nh ch, .slice Ae ne ce, .slice Ah nh ch] 25)); (try replace hKs := hKs.alloc (.cells #[.slice Ab nb cb, .slice Am nm cm, .slice Ae ne ce, .slice Ah nh ch, .slice Ae ne ce, .slice Ah nh ch] 25)); replace hM := hM.alloc (.cells #[.slice Ab nb cb, .slice Am nm cm, .slice Ae ne ce, .slice Ah nh ch, .slice Ae ne ce, .slice Ah nh ch] 25))
            (refine hK _ _ (⟨fun _ _ => HF.out _ hM, fun h => absurd h (by decide)⟩) ?_; clear hK K)
            (refine wpAnyK_with (F := fun W => (W.cell? ⟨w.heap.size, 0, none⟩ = some (.slice Ab nb cb) ∧ W.cell? ⟨w.heap.size, 1, none⟩ = some (.slice Am nm cm)) ∧ (W.cell? ⟨w3.heap.size, 0, none⟩ = some (.slice Ae ne ce) ∧ W.cell? ⟨w3.heap.size, 1, none⟩ = some (.slice Ah nh ch))) (HF.out _ hM) (fun hF8 => ?_); clear hF7)
            try simp only [Act.put, List.setIfInBounds_toArray, List.set_cons_zero, List.set_cons_succ]
            (refine wpAnyK_takeL Keep2.refl (i := 10) (v := ?_) rfl (by kernel_rfl) (by kernel_rfl) (by kernel_rfl) (fun _ _ _ h => h) (by rfl) ?_ ?_; rotate_left 1; focus (intro w; go_simp; try with_reducible rfl))
            try simp only [Act.put, List.setIfInBounds_toArray, List.set_cons_zero, List.set_cons_succ]
            (refine wpAnyK_takeL Keep2.refl (i := 11) (v := ?_) rfl (by kernel_rfl) (by kernel_rfl) (by kernel_rfl) (fun _ _ _ h => h) (by rfl) ?_ ?_; rotate_left 1; focus (intro w; go_simp; try with_reducible rfl))
            try simp only [Act.put, List.setIfInBounds_toArray, List.set_cons_zero, List.set_cons_succ]
            refine wpAnyK_done (by kernel_rfl) ?_ _
            go_wp2_with fail
            go_meet
            exact ⟨_, _, b4, ck, k, Ak, rfl, rfl, hX, hY, hKs, hk8, hck, hM⟩
      case rest =>
        obtain ⟨X, Y, b4, ck, k, Ak, rfl, rfl, hX, hY, hKs, hk8, hck, hM2⟩ := hcut
        obtain ⟨WL, rfl⟩ : ∃ WL : World, WL = wc := ⟨_, rfl⟩
        have HX0 := Lib.hid (HXD.out WL hM2.g)
        have HY0 := Lib.hid (show NArg.Ok ⟨e1, e2, b4, Ae, Ah, Ak, ne, ce, nh, ch, k.length, ck, es, hs, k⟩ WL from
          ⟨HYD.out WL hM2.g, hKs, by show ne ≤ 100; omega, by show nh ≤ 100; omega, by show k.length ≤ 100; omega, hck⟩)
        have HSEL := Lib.hid (show ∀ i : Nat, i < 3 → ∃ x : NArg, ∀ W, Below WL.heap.size WL W → x.Ok W ∧ W.cell? ⟨X, i * 2, none⟩ = some (.slice x.Ab x.nb x.cb) ∧ W.cell? ⟨X, i * 2 + 1, none⟩ = some (.slice x.Am x.nm x.cm) ∧ W.cell? ⟨Y, i, none⟩ = some (.slice x.Ao x.no x.co) from by
          intro i hi
          have kx := fun W (hW : Below WL.heap.size WL W) => hX.1.below hW hX.1.lt
          have ky := fun W (hW : Below WL.heap.size WL W) => hY.1.below hW hY.1.lt
          match i, hi with
          | 0, _ => exact ⟨_, fun W hW => ⟨HX0.out.old hW, (kx W hW).cell 0, (kx W hW).cell 1, (ky W hW).cell 0⟩⟩
          | 1, _ => exact ⟨_, fun W hW => ⟨HY0.out.old hW, (kx W hW).cell 2, (kx W hW).cell 3, (ky W hW).cell 1⟩⟩
          | 2, _ => exact ⟨⟨e1, e2, b3, Ae, Ah, Ao, ne, ce, nh, ch, no, co, es, hs, l⟩, fun W hW => ⟨⟨(HY0.out.old hW).m, (HX0.out.old hW).o, HY0.out.nb, HY0.out.nm, HX0.out.no, HX0.out.co⟩, (kx W hW).cell 4, (kx W hW).cell 5, (ky W hW).cell 2⟩⟩)
        have HWL := Lib.hid (HBVW.out.grown hM2.g HBVW.out.size (fun j e => by cases e; exact hwd))
        clear hX hY hKs hM2 HX0 HY0
        go_wp2_with fail
        go_loopw [11] (fun iv wr => ∃ i : Nat, i ≤ 3 ∧ iv = .int .i64 i ∧ Below WL.heap.size WL wr) (fun iv _ => 3 - (intOf iv).toNat)
        case atStart => exact ⟨0, by omega, rfl, Below.refl _ _⟩
        case round =>
          obtain ⟨i, hi4, rfl, hB⟩ := hrel
          have HBR := Lib.hid hB
          by_cases hlt : i < 3
          · obtain ⟨x, hx⟩ := HSEL.out i hlt
            have HXR := Lib.hid (fun (W : World) (hW : Below wr.heap.size wr W) => hx W (HBR.out.trans (hW.mono HBR.out.size)))
            obtain ⟨p1, p2, p3, Pb, Pm, Po, pn, pc, pm, pd, po, pe, ps, qs, os⟩ := x
            simp only at HXR
            obtain ⟨hok, k0, k1, k2⟩ := HXR.out wr (Below.refl _ wr)
            have HPN := Lib.hid hok.m.b.len
            have HPM := Lib.hid hok.m.m.len
            have hpn : pn ≤ 100 := hok.nb
            have hpm : pm ≤ 100 := hok.nm
            have hpo : po ≤ 100 := hok.no
            have HPO := Lib.hid hok.o.len
            clear hx hok hB
            have i0' : (0 : Int) ≤ (i : Int) := by omega
            have i1' : (i : Int) < 3 := by omega
            go_upto_region 9 with fail
            go_cut [12, 13] from 49 to 58 (fun u v wx => ∃ (Bo bb bm bo cc cd ci : Nat) (Ac Ad Ai : Option Addr), u = .pointer (some ⟨Bo, 0, none⟩) ∧ v = .slice Ai po ci ∧ NtB wr wx Bo #[.slice Ac pn cc, .slice Ad pm cd] ∧ NetM wx bb bm Ac Ad pn cc pm cd ps qs ∧ Sl encI 1 wx bo Ai po os ∧ po ≤ ci ∧ Below wr.heap.size wr wx)
            case first =>
              have hV : Below wr.heap.size wr wr.drew := (Below.refl _ wr).drew
              have HFC := Lib.hid (fun (W : World) (hW : Below wr.heap.size wr W) => (show W.cell? ⟨X, i * 2, none⟩ = some (.slice Pb pn pc) ∧ W.cell? ⟨X, i * 2 + 1, none⟩ = some (.slice Pm pm pd) ∧ W.cell? ⟨Y, i, none⟩ = some (.slice Po po pe) from (HXR.out W hW).2))
              clear k0 k1 k2
              refine wp_region_K2 [3, 8] [] (fun W => W.cell? ⟨X, i * 2, none⟩ = some (.slice Pb pn pc) ∧ W.cell? ⟨X, i * 2 + 1, none⟩ = some (.slice Pm pm pd) ∧ W.cell? ⟨Y, i, none⟩ = some (.slice Po po pe)) (fun _ => True) rfl (by kernel_rfl) (HFC.out _ hV) (trivial) (fun hF0 hG0 => ?_)
              (refine wpAnyK_takeL Keep2.refl (i := 0) (v := ?_) rfl (by kernel_rfl) (by kernel_rfl) (by kernel_rfl) (fun _ _ _ h => h) (by rfl) ?_ ?_; rotate_left 1; focus (intro w; go_simp; try with_reducible rfl))
              try simp only [Act.put, List.setIfInBounds_toArray, List.set_cons_zero, List.set_cons_succ]
              (refine wpAnyK_takeL Keep2.refl (i := 1) (v := ?_) rfl (by kernel_rfl) (by kernel_rfl) (by kernel_rfl) (fun _ _ _ h => h) (by rfl) ?_ ?_; rotate_left 1; focus (intro w; go_simp; try with_reducible rfl))
              try simp only [Act.put, List.setIfInBounds_toArray, List.set_cons_zero, List.set_cons_succ]
              (refine wpAnyK_takeL Keep2.refl (i := 2) (v := ?_) rfl (by kernel_rfl) (by kernel_rfl) (by kernel_rfl) (fun _ _ _ h => h) (by rfl) ?_ ?_; rotate_left 1; focus (intro w; go_simp; try with_reducible rfl))
              try simp only [Act.put, List.setIfInBounds_toArray, List.set_cons_zero, List.set_cons_succ]
              (refine wpAnyK_loadL Keep2.refl (i := 3) (v := ?_) rfl (Keep2.left (i := 3) (by rfl)) (by kernel_rfl) (by kernel_rfl) (by kernel_rfl) (fun _ _ _ h => h) hF0 (by rfl) ?_ ?_; rotate_left 1; focus (intro w hFw; (try dsimp only at hFw); go_split_ands; go_simp; try with_reducible rfl))
              try simp only [Act.put, List.setIfInBounds_toArray, List.set_cons_zero, List.set_cons_succ]
              (refine wpAnyK_takeL Keep2.refl (i := 5) (v := ?_) rfl (by kernel_rfl) (by kernel_rfl) (by kernel_rfl) (fun _ _ _ h => h) (by rfl) ?_ ?_; rotate_left 1; focus (intro w; go_simp; try with_reducible rfl))
              try simp only [Act.put, List.setIfInBounds_toArray, List.set_cons_zero, List.set_cons_succ]
              (refine wpAnyK_takeL Keep2.refl (i := 6) (v := ?_) rfl (by kernel_rfl) (by kernel_rfl) (by kernel_rfl) (fun _ _ _ h => h) (by rfl) ?_ ?_; rotate_left 1; focus (intro w; go_simp; try with_reducible rfl))
              try simp only [Act.put, List.setIfInBounds_toArray, List.set_cons_zero, List.set_cons_succ]
              (refine wpAnyK_takeL Keep2.refl (i := 7) (v := ?_) rfl (by kernel_rfl) (by kernel_rfl) (by kernel_rfl) (fun _ _ _ h => h) (by rfl) ?_ ?_; rotate_left 1; focus (intro w; go_simp; try with_reducible rfl))
              try simp only [Act.put, List.setIfInBounds_toArray, List.set_cons_zero, List.set_cons_succ]
              (refine wpAnyK_loadL Keep2.refl (i := 8) (v := ?_) rfl (Keep2.left (i := 8) (by rfl)) (by kernel_rfl) (by kernel_rfl) (by kernel_rfl) (fun _ _ _ h => h) hF0 (by rfl) ?_ ?_; rotate_left 1; focus (intro w hFw; (try dsimp only at hFw); go_split_ands; go_simp; try with_reducible rfl))
              try simp only [Act.put, List.setIfInBounds_toArray, List.set_cons_zero, List.set_cons_succ]
              refine wpAnyK_all (rs := [4, 10]) (by kernel_rfl) (by simp) ?_
              refine List.forall_mem_cons.2 ⟨?_, List.forall_mem_cons.2 ⟨?_, fun _ h => absurd h List.not_mem_nil⟩⟩
              · refine wpOp_of rfl (by rfl) (fun K hK => ?_)
                go_simp
                (refine (copyNet_any p1 p2 Pb Pm pn pc pm pd ps qs _ (HXR.out _ hV).1.m (by omega) (by omega)).mono ?_; rintro e w7 hcp; obtain ⟨Ac, Ad, cc, cd, bb, bm, rfl, hNM, hk1, hk2, hB7⟩ := hcp.open HPN.out HPM.out; (try have hNB : (0 < pn → bb ≠ B) ∧ (0 < pm → bm ≠ B) := ⟨fun _ => Ne.symm (Nat.ne_of_lt (Nat.lt_of_lt_of_le hA.1.lt hk1)), fun _ => Ne.symm (Nat.ne_of_lt (Nat.lt_of_lt_of_le hA.1.lt hk2))⟩); (try replace hA := hA.old hB7); replace hV := hV.trans (hB7.mono hV.size); clear hcp hk1 hk2 hB7)
                (refine hK _ _ ⟨⟨fun _ _ => HFC.out _ hV, fun h => absurd h (by decide)⟩, ?_⟩; clear hK K)
                (refine wpAnyK_with (F := fun W => W.cell? ⟨X, i * 2, none⟩ = some (.slice Pb pn pc) ∧ W.cell? ⟨X, i * 2 + 1, none⟩ = some (.slice Pm pm pd) ∧ W.cell? ⟨Y, i, none⟩ = some (.slice Po po pe)) (HFC.out _ hV) (fun hF1 => ?_); clear hF0)
                try simp only [Act.put, List.setIfInBounds_toArray, List.set_cons_zero, List.set_cons_succ]
                refine wpAnyK_all (rs := [9, 10]) (by kernel_rfl) (by simp) ?_
                refine List.forall_mem_cons.2 ⟨?_, List.forall_mem_cons.2 ⟨?_, fun _ h => absurd h List.not_mem_nil⟩⟩
                · refine wpOp_of rfl (by rfl) (fun K hK => ?_)
                  go_simp
                  (refine (copyInts_any p3 po pe Po os _ (HXR.out _ hV).1.o (by omega)).mono ?_; rintro e w8 ⟨Ai, ci, rfl, hown, hB8⟩; obtain ⟨bo, hk3, hSO⟩ := Sl.of_own (enc := encI) encI_len HPO.out hown; have hci := own_capN hown; (try have hSB : 0 < po → bo ≠ B := fun _ => Ne.symm (Nat.ne_of_lt (Nat.lt_of_lt_of_le hA.1.lt hk3))); (try replace hA := hA.old hB8); replace hNM := hNM.old hB8; replace hV := hV.trans (hB8.mono hV.size); clear hown hk3 hB8)
                  (refine hK _ _ ⟨⟨fun _ _ => HFC.out _ hV, fun h => absurd h (by decide)⟩, ?_⟩; clear hK K)
                  (refine wpAnyK_with (F := fun W => W.cell? ⟨X, i * 2, none⟩ = some (.slice Pb pn pc) ∧ W.cell? ⟨X, i * 2 + 1, none⟩ = some (.slice Pm pm pd) ∧ W.cell? ⟨Y, i, none⟩ = some (.slice Po po pe)) (HFC.out _ hV) (fun hF2 => ?_); clear hF1)
                  try simp only [Act.put, List.setIfInBounds_toArray, List.set_cons_zero, List.set_cons_succ]
                  refine wpAnyK_step (i := 10) rfl (by kernel_rfl) (by rfl) (fun K hK => ?_)
                  go_simp
                  (obtain ⟨B, hBe, hA⟩ := NtB.newE hV; (try have hNB : (0 < pn → bb ≠ B) ∧ (0 < pm → bm ≠ B) := (by rw [hBe]; exact ⟨fun h => Nat.ne_of_lt (hNM.b.lt h), fun h => Nat.ne_of_lt (hNM.m.lt h)⟩)); (try have hSB : 0 < po → bo ≠ B := (by rw [hBe]; exact fun h => Nat.ne_of_lt (hSO.lt h))); (try have hNM0 := hNM); (try have hSO0 := hSO); have hV0 := hV; (try replace hNM := hNM.allocN (.cells #[.slice none 0 0, .slice none 0 0] 25)); (try replace hSO := hSO.alloc (.cells #[.slice none 0 0, .slice none 0 0] 25)); replace hV := hV.alloc hV.size (.cells #[.slice none 0 0, .slice none 0 0] 25))
                  (refine hK _ _ (⟨fun _ _ => HFC.out _ hV, fun h => absurd h (by decide)⟩) ?_; clear hK K)
                  (refine wpAnyK_with (F := fun W => W.cell? ⟨X, i * 2, none⟩ = some (.slice Pb pn pc) ∧ W.cell? ⟨X, i * 2 + 1, none⟩ = some (.slice Pm pm pd) ∧ W.cell? ⟨Y, i, none⟩ = some (.slice Po po pe)) (HFC.out _ hV) (fun hF3 => ?_); clear hF2)
                  try simp only [Act.put, List.setIfInBounds_toArray, List.set_cons_zero, List.set_cons_succ]
                  refine wpAnyK_step (i := 11) rfl (by kernel_rfl) (by rfl) (fun K hK => ?_)
                  go_simp
                  (have f0 := hA.1.frozen 0; have f1 := hA.1.frozen 1; have c0 := hA.1.cell 0; have c1 := hA.1.cell 1; (try simp only [World.size_alloc, World.size_drew] at hBe); subst hBe; obtain ⟨hq1, hq2⟩ := hA.store (.slice Ac pn cc) (.slice Ad pm cd) hV; have hN1 := hNM.store2 hNB (.slice Ac pn cc) (.slice Ad pm cd); have hS1 := hSO.store2 hSB (.slice Ac pn cc) (.slice Ad pm cd); obtain ⟨hq3, hq4⟩ := NtB.last hV0 (.slice Ac pn cc) (.slice Ad pm cd); (try have hN3 := hNM0.allocN (.cells #[.slice Ac pn cc, .slice Ad pm cd] 25)); (try have hS3 := hSO0.alloc (.cells #[.slice Ac pn cc, .slice Ad pm cd] 25)); (try simp only [World.size_alloc, World.size_drew] at hq3); go_simp)
                  (refine hK _ _ (⟨fun _ _ => (by first | with_reducible exact HFC.out _ hq2 | with_reducible exact HFC.out _ hq4), fun h => absurd h (by decide)⟩) ?_; clear hK K)
                  (refine wpAnyK_with (F := fun W => W.cell? ⟨X, i * 2, none⟩ = some (.slice Pb pn pc) ∧ W.cell? ⟨X, i * 2 + 1, none⟩ = some (.slice Pm pm pd) ∧ W.cell? ⟨Y, i, none⟩ = some (.slice Po po pe)) ((by first | with_reducible exact HFC.out _ hq2 | with_reducible exact HFC.out _ hq4)) (fun hF4 => ?_); clear hF3)
                  try simp only [Act.put, List.setIfInBounds_toArray, List.set_cons_zero, List.set_cons_succ]
                  (refine wpAnyK_takeL Keep2.refl (i := 12) (v := ?_) rfl (by kernel_rfl) (by kernel_rfl) (by kernel_rfl) (fun _ _ _ h => h) (by rfl) ?_ ?_; rotate_left 1; focus (intro w; go_simp; try with_reducible rfl))
                  try simp only [Act.put, List.setIfInBounds_toArray, List.set_cons_zero, List.set_cons_succ]
                  refine wpAnyK_done (by kernel_rfl) ?_ _
                  go_wp2_with fail
                  go_meet
                  refine ⟨_, bb, bm, bo, cc, cd, ci, Ac, Ad, Ai, rfl, rfl, ?_, ?_, ?_, hci, ?_⟩ <;> with_reducible assumption
                · refine wpOp_of rfl (by rfl) (fun K hK => ?_)
                  go_simp
                  (obtain ⟨B, hBe, hA⟩ := NtB.newE hV; (try have hNB : (0 < pn → bb ≠ B) ∧ (0 < pm → bm ≠ B) := (by rw [hBe]; exact ⟨fun h => Nat.ne_of_lt (hNM.b.lt h), fun h => Nat.ne_of_lt (hNM.m.lt h)⟩)); (try have hSB : 0 < po → bo ≠ B := (by rw [hBe]; exact fun h => Nat.ne_of_lt (hSO.lt h))); (try have hNM0 := hNM); (try have hSO0 := hSO); have hV0 := hV; (try replace hNM := hNM.allocN (.cells #[.slice none 0 0, .slice none 0 0] 25)); (try replace hSO := hSO.alloc (.cells #[.slice none 0 0, .slice none 0 0] 25)); replace hV := hV.alloc hV.size (.cells #[.slice none 0 0, .slice none 0 0] 25))
                  (refine hK _ _ ⟨⟨fun _ _ => HFC.out _ hV, fun h => absurd h (by decide)⟩, ?_⟩; clear hK K)
                  (refine wpAnyK_with (F := fun W => W.cell? ⟨X, i * 2, none⟩ = some (.slice Pb pn pc) ∧ W.cell? ⟨X, i * 2 + 1, none⟩ = some (.slice Pm pm pd) ∧ W.cell? ⟨Y, i, none⟩ = some (.slice Po po pe)) (HFC.out _ hV) (fun hF5 => ?_); clear hF1)
                  try simp only [Act.put, List.setIfInBounds_toArray, List.set_cons_zero, List.set_cons_succ]
                  refine wpAnyK_step (i := 9) rfl (by kernel_rfl) (by rfl) (fun K hK => ?_)
                  go_simp
                  (refine (copyInts_any p3 po pe Po os _ (HXR.out _ hV).1.o (by omega)).mono ?_; rintro e w8 ⟨Ai, ci, rfl, hown, hB8⟩; obtain ⟨bo, hk3, hSO⟩ := Sl.of_own (enc := encI) encI_len HPO.out hown; have hci := own_capN hown; (try have hSB : 0 < po → bo ≠ B := fun _ => Ne.symm (Nat.ne_of_lt (Nat.lt_of_lt_of_le hA.1.lt hk3))); (try replace hA := hA.old hB8); replace hNM := hNM.old hB8; replace hV := hV.trans (hB8.mono hV.size); clear hown hk3 hB8)
                  (refine hK _ _ (⟨fun _ _ => HFC.out _ hV, fun h => absurd h (by decide)⟩) ?_; clear hK K)
                  (refine wpAnyK_with (F := fun W => W.cell? ⟨X, i * 2, none⟩ = some (.slice Pb pn pc) ∧ W.cell? ⟨X, i * 2 + 1, none⟩ = some (.slice Pm pm pd) ∧ W.cell? ⟨Y, i, none⟩ = some (.slice Po po pe)) (HFC.out _ hV) (fun hF6 => ?_); clear hF5)
                  try simp only [Act.put, List.setIfInBounds_toArray, List.set_cons_zero, List.set_cons_succ]
                  refine wpAnyK_step (i := 11) rfl (by kernel_rfl) (by rfl) (fun K hK => ?_)
                  go_simp
                  (have f0 := hA.1.frozen 0; have f1 := hA.1.frozen 1; have c0 := hA.1.cell 0; have c1 := hA.1.cell 1; (try simp only [World.size_alloc, World.size_drew] at hBe); subst hBe; obtain ⟨hq1, hq2⟩ := hA.store (.slice Ac pn cc) (.slice Ad pm cd) hV; have hN1 := hNM.store2 hNB (.slice Ac pn cc) (.slice Ad pm cd); have hS1 := hSO.store2 hSB (.slice Ac pn cc) (.slice Ad pm cd); obtain ⟨hq3, hq4⟩ := NtB.last hV0 (.slice Ac pn cc) (.slice Ad pm cd); (try have hN3 := hNM0.allocN (.cells #[.slice Ac pn cc, .slice Ad pm cd] 25)); (try have hS3 := hSO0.alloc (.cells #[.slice Ac pn cc, .slice Ad pm cd] 25)); (try simp only [World.size_alloc, World.size_drew] at hq3); go_simp)
                  (refine hK _ _ (⟨fun _ _ => (by first | with_reducible exact HFC.out _ hq2 | with_reducible exact HFC.out _ hq4), fun h => absurd h (by decide)⟩) ?_; clear hK K)
                  (refine wpAnyK_with (F := fun W => W.cell? ⟨X, i * 2, none⟩ = some (.slice Pb pn pc) ∧ W.cell? ⟨X, i * 2 + 1, none⟩ = some (.slice Pm pm pd) ∧ W.cell? ⟨Y, i, none⟩ = some (.slice Po po pe)) ((by first | with_reducible exact HFC.out _ hq2 | with_reducible exact HFC.out _ hq4)) (fun hF7 => ?_); clear hF6)
                  try simp only [Act.put, List.setIfInBounds_toArray, List.set_cons_zero, List.set_cons_succ]
                  (refine wpAnyK_takeL Keep2.refl (i := 12) (v := ?_) rfl (by kernel_rfl) (by kernel_rfl) (by kernel_rfl) (fun _ _ _ h => h) (by rfl) ?_ ?_; rotate_left 1; focus (intro w; go_simp; try with_reducible rfl))
                  try simp only [Act.put, List.setIfInBounds_toArray, List.set_cons_zero, List.set_cons_succ]
                  refine wpAnyK_done (by kernel_rfl) ?_ _
                  go_wp2_with fail
                  go_meet
                  refine ⟨_, bb, bm, bo, cc, cd, ci, Ac, Ad, Ai, rfl, rfl, ?_, ?_, ?_, hci, ?_⟩ <;> with_reducible assumption
              · refine wpOp_of rfl (by rfl) (fun K hK => ?_)
                go_simp
                (obtain ⟨B, hBe, hA⟩ := NtB.newE hV; (try have hNB : (0 < pn → bb ≠ B) ∧ (0 < pm → bm ≠ B) := (by rw [hBe]; exact ⟨fun h => Nat.ne_of_lt (hNM.b.lt h), fun h => Nat.ne_of_lt (hNM.m.lt h)⟩)); (try have hSB : 0 < po → bo ≠ B := (by rw [hBe]; exact fun h => Nat.ne_of_lt (hSO.lt h))); (try have hNM0 := hNM); (try have hSO0 := hSO); have hV0 := hV; (try replace hNM := hNM.allocN (.cells #[.slice none 0 0, .slice none 0 0] 25)); (try replace hSO := hSO.alloc (.cells #[.slice none 0 0, .slice none 0 0] 25)); replace hV := hV.alloc hV.size (.cells #[.slice none 0 0, .slice none 0 0] 25))
                (refine hK _ _ ⟨⟨fun _ _ => HFC.out _ hV, fun h => absurd h (by decide)⟩, ?_⟩; clear hK K)
                (refine wpAnyK_with (F := fun W => W.cell? ⟨X, i * 2, none⟩ = some (.slice Pb pn pc) ∧ W.cell? ⟨X, i * 2 + 1, none⟩ = some (.slice Pm pm pd) ∧ W.cell? ⟨Y, i, none⟩ = some (.slice Po po pe)) (HFC.out _ hV) (fun hF8 => ?_); clear hF0)
                try simp only [Act.put, List.setIfInBounds_toArray, List.set_cons_zero, List.set_cons_succ]
                refine wpAnyK_step (i := 4) rfl (by kernel_rfl) (by rfl) (fun K hK => ?_)
                go_simp
                (refine (copyNet_any p1 p2 Pb Pm pn pc pm pd ps qs _ (HXR.out _ hV).1.m (by omega) (by omega)).mono ?_; rintro e w7 hcp; obtain ⟨Ac, Ad, cc, cd, bb, bm, rfl, hNM, hk1, hk2, hB7⟩ := hcp.open HPN.out HPM.out; (try have hNB : (0 < pn → bb ≠ B) ∧ (0 < pm → bm ≠ B) := ⟨fun _ => Ne.symm (Nat.ne_of_lt (Nat.lt_of_lt_of_le hA.1.lt hk1)), fun _ => Ne.symm (Nat.ne_of_lt (Nat.lt_of_lt_of_le hA.1.lt hk2))⟩); (try replace hA := hA.old hB7); replace hV := hV.trans (hB7.mono hV.size); clear hcp hk1 hk2 hB7)
                (refine hK _ _ (⟨fun _ _ => HFC.out _ hV, fun h => absurd h (by decide)⟩) ?_; clear hK K)
                (refine wpAnyK_with (F := fun W => W.cell? ⟨X, i * 2, none⟩ = some (.slice Pb pn pc) ∧ W.cell? ⟨X, i * 2 + 1, none⟩ = some (.slice Pm pm pd) ∧ W.cell? ⟨Y, i, none⟩ = some (.slice Po po pe)) (HFC.out _ hV) (fun hF9 => ?_); clear hF8)
                try simp only [Act.put, List.setIfInBounds_toArray, List.set_cons_zero, List.set_cons_succ]
                refine wpAnyK_step (i := 9) rfl (by kernel_rfl) (by rfl) (fun K hK => ?_)
                go_simp
                (refine (copyInts_any p3 po pe Po os _ (HXR.out _ hV).1.o (by omega)).mono ?_; rintro e w8 ⟨Ai, ci, rfl, hown, hB8⟩; obtain ⟨bo, hk3, hSO⟩ := Sl.of_own (enc := encI) encI_len HPO.out hown; have hci := own_capN hown; (try have hSB : 0 < po → bo ≠ B := fun _ => Ne.symm (Nat.ne_of_lt (Nat.lt_of_lt_of_le hA.1.lt hk3))); (try replace hA := hA.old hB8); replace hNM := hNM.old hB8; replace hV := hV.trans (hB8.mono hV.size); clear hown hk3 hB8)
                (refine hK _ _ (⟨fun _ _ => HFC.out _ hV, fun h => absurd h (by decide)⟩) ?_; clear hK K)
                (refine wpAnyK_with (F := fun W => W.cell? ⟨X, i * 2, none⟩ = some (.slice Pb pn pc) ∧ W.cell? ⟨X, i * 2 + 1, none⟩ = some (.slice Pm pm pd) ∧ W.cell? ⟨Y, i, none⟩ = some (.slice Po po pe)) (HFC.out _ hV) (fun hF10 => ?_); clear hF9)
                try simp only [Act.put, List.setIfInBounds_toArray, List.set_cons_zero, List.set_cons_succ]
                refine wpAnyK_step (i := 11) rfl (by kernel_rfl) (by rfl) (fun K hK => ?_)
                go_simp
                (have f0 := hA.1.frozen 0; have f1 := hA.1.frozen 1; have c0 := hA.1.cell 0; have c1 := hA.1.cell 1; (try simp only [World.size_alloc, World.size_drew] at hBe); subst hBe; obtain ⟨hq1, hq2⟩ := hA.store (.slice Ac pn cc) (.slice Ad pm cd) hV; have hN1 := hNM.store2 hNB (.slice Ac pn cc) (.slice Ad pm cd); have hS1 := hSO.store2 hSB (.slice Ac pn cc) (.slice Ad pm cd); obtain ⟨hq3, hq4⟩ := NtB.last hV0 (.slice Ac pn cc) (.slice Ad pm cd); (try have hN3 := hNM0.allocN (.cells #[.slice Ac pn cc, .slice Ad pm cd] 25)); (try have hS3 := hSO0.alloc (.cells #[.slice Ac pn cc, .slice Ad pm cd] 25)); (try simp only [World.size_alloc, World.size_drew] at hq3); go_simp)
                (refine hK _ _ (⟨fun _ _ => (by first | with_reducible exact HFC.out _ hq2 | with_reducible exact HFC.out _ hq4), fun h => absurd h (by decide)⟩) ?_; clear hK K)
                (refine wpAnyK_with (F := fun W => W.cell? ⟨X, i * 2, none⟩ = some (.slice Pb pn pc) ∧ W.cell? ⟨X, i * 2 + 1, none⟩ = some (.slice Pm pm pd) ∧ W.cell? ⟨Y, i, none⟩ = some (.slice Po po pe)) ((by first | with_reducible exact HFC.out _ hq2 | with_reducible exact HFC.out _ hq4)) (fun hF11 => ?_); clear hF10)
                try simp only [Act.put, List.setIfInBounds_toArray, List.set_cons_zero, List.set_cons_succ]
                (refine wpAnyK_takeL Keep2.refl (i := 12) (v := ?_) rfl (by kernel_rfl) (by kernel_rfl) (by kernel_rfl) (fun _ _ _ h => h) (by rfl) ?_ ?_; rotate_left 1; focus (intro w; go_simp; try with_reducible rfl))
                try simp only [Act.put, List.setIfInBounds_toArray, List.set_cons_zero, List.set_cons_succ]
                refine wpAnyK_done (by kernel_rfl) ?_ _
                go_wp2_with fail
                go_meet
                refine ⟨_, bb, bm, bo, cc, cd, ci, Ac, Ad, Ai, rfl, rfl, ?_, ?_, ?_, hci, ?_⟩ <;> with_reducible assumption
            case rest =>
              obtain ⟨Bo, bb, bm, bo, cc, cd, ci, Ac, Ad, Ai, rfl, rfl, hNt, hNM, hSO, hci, hVc⟩ := hcut
              obtain ⟨wo, rfl⟩ : ∃ wo : World, wo = wc := ⟨_, rfl⟩
              have HNt := Lib.hid hNt.1
              have HVC := Lib.hid hVc
              have HNM := Lib.hid hNM
              have HSO := Lib.hid hSO
              have HCL := Lib.hid (fun (W : World) (hW : Below wo.heap.size wo W) => (show (W.cell? ⟨Bo, 0, none⟩ = some (.slice Ac pn cc) ∧ W.cell? ⟨Bo, 1, none⟩ = some (.slice Ad pm cd)) ∧ (W.cell? ⟨X, i * 2, none⟩ = some (.slice Pb pn pc) ∧ W.cell? ⟨X, i * 2 + 1, none⟩ = some (.slice Pm pm pd) ∧ W.cell? ⟨Y, i, none⟩ = some (.slice Po po pe)) from
                ⟨⟨(HNt.out.below hW HNt.out.lt).cell 0, (HNt.out.below hW HNt.out.lt).cell 1⟩, (HXR.out W (HVC.out.trans (hW.mono HVC.out.size))).2⟩))
              have HXO := Lib.hid (fun (W : World) (hW : Below wo.heap.size wo W) => (HXR.out W (HVC.out.trans (hW.mono HVC.out.size))).1)
              have HC1 := Lib.hid (fun (W : World) (hW : Below wo.heap.size wo W) => samplesU (w := W) (co := ci) (HNM.out.old hW) (by omega) (by omega) (HSO.out.old hW) (by omega) hci)
              have HC2 := Lib.hid (fun (W : World) (hW : Below wo.heap.size wo W) => qsamplesU (w := W) (co := pe) (HXO.out W hW).m (by show pn ≤ _; omega) (by show pm ≤ _; omega) (HXO.out W hW).o (by show po ≤ _; omega) (HXO.out W hW).co)
              clear hNt hVc hNM hSO k0 k1 k2
              generalize hco9 : chkS ps qs os = cq at HC1 HC2
              clear hco9
              obtain ⟨⟨d0, d1⟩, k0, k1, k2⟩ := HCL.out wo (Below.refl _ _)
              go_upto_region 11 with (go_at_call 21; refine (HC1.out _ (Below.refl _ _)).mono ?_; rintro e v1 ⟨A1, n1, c1, r1, rfl, hs1, hn1, hb1⟩; have HS1 := Lib.hid hs1; have HB1 := Lib.hid hb1; clear hs1 hb1)
              clear d0 d1 k0 k1 k2
              have hM : Below wo.heap.size wo v1.drew := HB1.out.drew
              refine wp_region_PL [3, 7] (fun W => (W.cell? ⟨Bo, 0, none⟩ = some (.slice Ac pn cc) ∧ W.cell? ⟨Bo, 1, none⟩ = some (.slice Ad pm cd)) ∧ (W.cell? ⟨X, i * 2, none⟩ = some (.slice Pb pn pc) ∧ W.cell? ⟨X, i * 2 + 1, none⟩ = some (.slice Pm pm pd) ∧ W.cell? ⟨Y, i, none⟩ = some (.slice Po po pe))) rfl (by kernel_rfl) (HCL.out _ hM) (fun hF0 => ?_)
              (refine wpAnyP_takeL (i := 0) (v := ?_) rfl (by kernel_rfl) (by kernel_rfl) (by kernel_rfl) (fun _ _ _ h => h) (by rfl) ?_ ?_; rotate_left 1; focus (intro w; go_simp; try with_reducible rfl))
              try simp only [Act.put, List.setIfInBounds_toArray, List.set_cons_zero, List.set_cons_succ]
              (refine wpAnyP_takeL (i := 1) (v := ?_) rfl (by kernel_rfl) (by kernel_rfl) (by kernel_rfl) (fun _ _ _ h => h) (by rfl) ?_ ?_; rotate_left 1; focus (intro w; go_simp; try with_reducible rfl))
              try simp only [Act.put, List.setIfInBounds_toArray, List.set_cons_zero, List.set_cons_succ]
              (refine wpAnyP_takeL (i := 2) (v := ?_) rfl (by kernel_rfl) (by kernel_rfl) (by kernel_rfl) (fun _ _ _ h => h) (by rfl) ?_ ?_; rotate_left 1; focus (intro w; go_simp; try with_reducible rfl))
              try simp only [Act.put, List.setIfInBounds_toArray, List.set_cons_zero, List.set_cons_succ]
              (refine wpAnyP_loadL (i := 3) (v := ?_) rfl (by kernel_rfl) (by kernel_rfl) (by kernel_rfl) (by rfl) (fun _ _ _ h => h) hF0 (by rfl) ?_ ?_; rotate_left 1; focus (intro w hFw; (try dsimp only at hFw); go_split_ands; go_simp; try with_reducible rfl))
              try simp only [Act.put, List.setIfInBounds_toArray, List.set_cons_zero, List.set_cons_succ]
              (refine wpAnyP_takeL (i := 4) (v := ?_) rfl (by kernel_rfl) (by kernel_rfl) (by kernel_rfl) (fun _ _ _ h => h) (by rfl) ?_ ?_; rotate_left 1; focus (intro w; go_simp; try with_reducible rfl))
              try simp only [Act.put, List.setIfInBounds_toArray, List.set_cons_zero, List.set_cons_succ]
              (refine wpAnyP_takeL (i := 5) (v := ?_) rfl (by kernel_rfl) (by kernel_rfl) (by kernel_rfl) (fun _ _ _ h => h) (by rfl) ?_ ?_; rotate_left 1; focus (intro w; go_simp; try with_reducible rfl))
              try simp only [Act.put, List.setIfInBounds_toArray, List.set_cons_zero, List.set_cons_succ]
              (refine wpAnyP_takeL (i := 6) (v := ?_) rfl (by kernel_rfl) (by kernel_rfl) (by kernel_rfl) (fun _ _ _ h => h) (by rfl) ?_ ?_; rotate_left 1; focus (intro w; go_simp; try with_reducible rfl))
              try simp only [Act.put, List.setIfInBounds_toArray, List.set_cons_zero, List.set_cons_succ]
              (refine wpAnyP_loadL (i := 7) (v := ?_) rfl (by kernel_rfl) (by kernel_rfl) (by kernel_rfl) (by rfl) (fun _ _ _ h => h) hF0 (by rfl) ?_ ?_; rotate_left 1; focus (intro w hFw; (try dsimp only at hFw); go_split_ands; go_simp; try with_reducible rfl))
              try simp only [Act.put, List.setIfInBounds_toArray, List.set_cons_zero, List.set_cons_succ]
              refine wpAnyP_last (i := 8) rfl (by kernel_rfl) (by kernel_rfl) (by rfl) (fun K hK => ?_)
              go_simp
              (refine (HC2.out _ hM).mono ?_; rintro e v2 ⟨A2, n2, c2, r2, rfl, hs2, hn2, hb2⟩)
              (refine hK _ _ ?_; clear hK K)
              try simp only [Act.put, List.setIfInBounds_toArray, List.set_cons_zero, List.set_cons_succ]
              (refine wpAnyP_takeL (i := 9) (v := ?_) rfl (by kernel_rfl) (by kernel_rfl) (by kernel_rfl) (fun _ _ _ h => h) (by rfl) ?_ ?_; rotate_left 1; focus (intro w; go_simp; try with_reducible rfl))
              try simp only [Act.put, List.setIfInBounds_toArray, List.set_cons_zero, List.set_cons_succ]
              (refine wpAnyP_takeL (i := 10) (v := ?_) rfl (by kernel_rfl) (by kernel_rfl) (by kernel_rfl) (fun _ _ _ h => h) (by rfl) ?_ ?_; rotate_left 1; focus (intro w; go_simp; try with_reducible rfl))
              try simp only [Act.put, List.setIfInBounds_toArray, List.set_cons_zero, List.set_cons_succ]
              (refine wpAnyP_takeL (i := 11) (v := ?_) rfl (by kernel_rfl) (by kernel_rfl) (by kernel_rfl) (fun _ _ _ h => h) (by rfl) ?_ ?_; rotate_left 1; focus (intro w; go_simp; try with_reducible rfl))
              try simp only [Act.put, List.setIfInBounds_toArray, List.set_cons_zero, List.set_cons_succ]
              (refine wpAnyP_takeL (i := 12) (v := ?_) rfl (by kernel_rfl) (by kernel_rfl) (by kernel_rfl) (fun _ _ _ h => h) (by rfl) ?_ ?_; rotate_left 1; focus (intro w; go_simp; try with_reducible rfl))
              try simp only [Act.put, List.setIfInBounds_toArray, List.set_cons_zero, List.set_cons_succ]
              (refine wpAnyP_takeL (i := 13) (v := ?_) rfl (by kernel_rfl) (by kernel_rfl) (by kernel_rfl) (fun _ _ _ h => h) (by rfl) ?_ ?_; rotate_left 1; focus (intro w; go_simp; try with_reducible rfl))
              try simp only [Act.put, List.setIfInBounds_toArray, List.set_cons_zero, List.set_cons_succ]
              refine wpAnyP_done (by kernel_rfl) ?_ _
              have hb2 := ((Below.refl v1.heap.size v1).drew).trans hb2
              have HT1 := Lib.hid (And.intro (HS1.out.old hb2) hs2)
              have HB2 := Lib.hid (HB1.out.trans (hb2.mono HB1.out.size))
              clear hs2 hb2 hM
              go_upto_region 12 with fail
              have hM : Below wo.heap.size wo v2.drew := HB2.out.drew
              have hV6 : Below v2.heap.size v2 v2.drew := (Below.refl _ v2).drew
              refine wp_region_PL [10, 14, 23] (fun W => (W.cell? ⟨Bo, 0, none⟩ = some (.slice Ac pn cc) ∧ W.cell? ⟨Bo, 1, none⟩ = some (.slice Ad pm cd)) ∧ (W.cell? ⟨X, i * 2, none⟩ = some (.slice Pb pn pc) ∧ W.cell? ⟨X, i * 2 + 1, none⟩ = some (.slice Pm pm pd) ∧ W.cell? ⟨Y, i, none⟩ = some (.slice Po po pe))) rfl (by kernel_rfl) (HCL.out _ hM) (fun hF0 => ?_)
              (refine wpAnyP_takeL (i := 0) (v := ?_) rfl (by kernel_rfl) (by kernel_rfl) (by kernel_rfl) (fun _ _ _ h => h) (by rfl) ?_ ?_; rotate_left 1; focus (intro w; go_simp; try with_reducible rfl))
              try simp only [Act.put, List.setIfInBounds_toArray, List.set_cons_zero, List.set_cons_succ]
              (refine wpAnyP_takeL (i := 1) (v := ?_) rfl (by kernel_rfl) (by kernel_rfl) (by kernel_rfl) (fun _ _ _ h => h) (by rfl) ?_ ?_; rotate_left 1; focus (intro w; go_simp; try with_reducible rfl))
              try simp only [Act.put, List.setIfInBounds_toArray, List.set_cons_zero, List.set_cons_succ]
              (refine wpAnyP_takeL (i := 2) (v := ?_) rfl (by kernel_rfl) (by kernel_rfl) (by kernel_rfl) (fun _ _ _ h => h) (by rfl) ?_ ?_; rotate_left 1; focus (intro w; go_simp; try with_reducible rfl))
              try simp only [Act.put, List.setIfInBounds_toArray, List.set_cons_zero, List.set_cons_succ]
              (refine wpAnyP_takeL (i := 3) (v := ?_) rfl (by kernel_rfl) (by kernel_rfl) (by kernel_rfl) (fun _ _ _ h => h) (by rfl) ?_ ?_; rotate_left 1; focus (intro w; go_simp; try with_reducible rfl))
              try simp only [Act.put, List.setIfInBounds_toArray, List.set_cons_zero, List.set_cons_succ]
              (refine wpAnyP_takeL (i := 4) (v := ?_) rfl (by kernel_rfl) (by kernel_rfl) (by kernel_rfl) (fun _ _ _ h => h) (by rfl) ?_ ?_; rotate_left 1; focus (intro w; go_simp; try with_reducible rfl))
              try simp only [Act.put, List.setIfInBounds_toArray, List.set_cons_zero, List.set_cons_succ]
              (refine wpAnyP_takeL (i := 5) (v := ?_) rfl (by kernel_rfl) (by kernel_rfl) (by kernel_rfl) (fun _ _ _ h => h) (by rfl) ?_ ?_; rotate_left 1; focus (intro w; go_simp; try with_reducible rfl))
              try simp only [Act.put, List.setIfInBounds_toArray, List.set_cons_zero, List.set_cons_succ]
              refine wpAnyP_step (i := 6) rfl (by kernel_rfl) (by rfl) (fun K hK => ?_)
              go_simp
              (refine (sameInts_any r1 r2 n1 n2 c1 c2 A1 A2 _ _ _ (HT1.out.1.old hV6) (HT1.out.2.old hV6) (by omega)).mono ?_; rw [decide_eq_true rfl]; rintro e v9 ⟨rfl, hb9⟩; have hM := hM.trans (hb9.mono hM.size); clear hb9 hV6)
              (refine hK _ _ (HCL.out _ hM) (fun hF1 => ?_); clear hK K hF0)
              try simp only [Act.put, List.setIfInBounds_toArray, List.set_cons_zero, List.set_cons_succ]
              (refine wpAnyP_takeL (i := 7) (v := ?_) rfl (by kernel_rfl) (by kernel_rfl) (by kernel_rfl) (fun _ _ _ h => h) (by rfl) ?_ ?_; rotate_left 1; focus (intro w; go_simp; try with_reducible rfl))
              try simp only [Act.put, List.setIfInBounds_toArray, List.set_cons_zero, List.set_cons_succ]
              (refine wpAnyP_takeL (i := 8) (v := ?_) rfl (by kernel_rfl) (by kernel_rfl) (by kernel_rfl) (fun _ _ _ h => h) (by rfl) ?_ ?_; rotate_left 1; focus (intro w; go_simp; try with_reducible rfl))
              try simp only [Act.put, List.setIfInBounds_toArray, List.set_cons_zero, List.set_cons_succ]
              (refine wpAnyP_takeL (i := 9) (v := ?_) rfl (by kernel_rfl) (by kernel_rfl) (by kernel_rfl) (fun _ _ _ h => h) (by rfl) ?_ ?_; rotate_left 1; focus (intro w; go_simp; try with_reducible rfl))
              try simp only [Act.put, List.setIfInBounds_toArray, List.set_cons_zero, List.set_cons_succ]
              (refine wpAnyP_loadL (i := 10) (v := ?_) rfl (by kernel_rfl) (by kernel_rfl) (by kernel_rfl) (by rfl) (fun _ _ _ h => h) hF1 (by rfl) ?_ ?_; rotate_left 1; focus (intro w hFw; (try dsimp only at hFw); go_split_ands; go_simp; try with_reducible rfl))
              try simp only [Act.put, List.setIfInBounds_toArray, List.set_cons_zero, List.set_cons_succ]
              (refine wpAnyP_takeL (i := 11) (v := ?_) rfl (by kernel_rfl) (by kernel_rfl) (by kernel_rfl) (fun _ _ _ h => h) (by rfl) ?_ ?_; rotate_left 1; focus (intro w; go_simp; try with_reducible rfl))
              try simp only [Act.put, List.setIfInBounds_toArray, List.set_cons_zero, List.set_cons_succ]
              (refine wpAnyP_takeL (i := 12) (v := ?_) rfl (by kernel_rfl) (by kernel_rfl) (by kernel_rfl) (fun _ _ _ h => h) (by rfl) ?_ ?_; rotate_left 1; focus (intro w; go_simp; try with_reducible rfl))
              try simp only [Act.put, List.setIfInBounds_toArray, List.set_cons_zero, List.set_cons_succ]
              (refine wpAnyP_takeL (i := 13) (v := ?_) rfl (by kernel_rfl) (by kernel_rfl) (by kernel_rfl) (fun _ _ _ h => h) (by rfl) ?_ ?_; rotate_left 1; focus (intro w; go_simp; try with_reducible rfl))
              try simp only [Act.put, List.setIfInBounds_toArray, List.set_cons_zero, List.set_cons_succ]
              (refine wpAnyP_loadL (i := 14) (v := ?_) rfl (by kernel_rfl) (by kernel_rfl) (by kernel_rfl) (by rfl) (fun _ _ _ h => h) hF1 (by rfl) ?_ ?_; rotate_left 1; focus (intro w hFw; (try dsimp only at hFw); go_split_ands; go_simp; try with_reducible rfl))
              try simp only [Act.put, List.setIfInBounds_toArray, List.set_cons_zero, List.set_cons_succ]
              refine wpAnyP_step (i := 15) rfl (by kernel_rfl) (by rfl) (fun K hK => ?_)
              go_simp
              (refine (sameNets_any bb bm p1 p2 Ac Ad Pb Pm pn cc pm cd pn pc pm pd ps ps qs qs _ (HNM.out.old hM) (HXO.out _ hM).m (by omega) (by omega)).mono ?_; rw [decide_eq_true rfl, decide_eq_true rfl]; rintro e v12 ⟨rfl, hb12⟩; have hM := hM.trans (hb12.mono hM.size); clear hb12)
              (refine hK _ _ (HCL.out _ hM) (fun hF2 => ?_); clear hK K hF1)
              try simp only [Act.put, List.setIfInBounds_toArray, List.set_cons_zero, List.set_cons_succ]
              (refine wpAnyP_takeL (i := 16) (v := ?_) rfl (by kernel_rfl) (by kernel_rfl) (by kernel_rfl) (fun _ _ _ h => h) (by rfl) ?_ ?_; rotate_left 1; focus (intro w; go_simp; try with_reducible rfl))
              try simp only [Act.put, List.setIfInBounds_toArray, List.set_cons_zero, List.set_cons_succ]
              (refine wpAnyP_takeL (i := 17) (v := ?_) rfl (by kernel_rfl) (by kernel_rfl) (by kernel_rfl) (fun _ _ _ h => h) (by rfl) ?_ ?_; rotate_left 1; focus (intro w; go_simp; try with_reducible rfl))
              try simp only [Act.put, List.setIfInBounds_toArray, List.set_cons_zero, List.set_cons_succ]
              (refine wpAnyP_takeL (i := 18) (v := ?_) rfl (by kernel_rfl) (by kernel_rfl) (by kernel_rfl) (fun _ _ _ h => h) (by rfl) ?_ ?_; rotate_left 1; focus (intro w; go_simp; try with_reducible rfl))
              try simp only [Act.put, List.setIfInBounds_toArray, List.set_cons_zero, List.set_cons_succ]
              (refine wpAnyP_takeL (i := 19) (v := ?_) rfl (by kernel_rfl) (by kernel_rfl) (by kernel_rfl) (fun _ _ _ h => h) (by rfl) ?_ ?_; rotate_left 1; focus (intro w; go_simp; try with_reducible rfl))
              try simp only [Act.put, List.setIfInBounds_toArray, List.set_cons_zero, List.set_cons_succ]
              (refine wpAnyP_takeL (i := 20) (v := ?_) rfl (by kernel_rfl) (by kernel_rfl) (by kernel_rfl) (fun _ _ _ h => h) (by rfl) ?_ ?_; rotate_left 1; focus (intro w; go_simp; try with_reducible rfl))
              try simp only [Act.put, List.setIfInBounds_toArray, List.set_cons_zero, List.set_cons_succ]
              (refine wpAnyP_takeL (i := 21) (v := ?_) rfl (by kernel_rfl) (by kernel_rfl) (by kernel_rfl) (fun _ _ _ h => h) (by rfl) ?_ ?_; rotate_left 1; focus (intro w; go_simp; try with_reducible rfl))
              try simp only [Act.put, List.setIfInBounds_toArray, List.set_cons_zero, List.set_cons_succ]
              (refine wpAnyP_takeL (i := 22) (v := ?_) rfl (by kernel_rfl) (by kernel_rfl) (by kernel_rfl) (fun _ _ _ h => h) (by rfl) ?_ ?_; rotate_left 1; focus (intro w; go_simp; try with_reducible rfl))
              try simp only [Act.put, List.setIfInBounds_toArray, List.set_cons_zero, List.set_cons_succ]
              (refine wpAnyP_loadL (i := 23) (v := ?_) rfl (by kernel_rfl) (by kernel_rfl) (by kernel_rfl) (by rfl) (fun _ _ _ h => h) hF2 (by rfl) ?_ ?_; rotate_left 1; focus (intro w hFw; (try dsimp only at hFw); go_split_ands; go_simp; try with_reducible rfl))
              try simp only [Act.put, List.setIfInBounds_toArray, List.set_cons_zero, List.set_cons_succ]
              refine wpAnyP_step (i := 24) rfl (by kernel_rfl) (by rfl) (fun K hK => ?_)
              go_simp
              (refine (sameInts_any bo p3 po po ci pe Ai Po os os _ (HSO.out.old hM) (HXO.out _ hM).o (by omega)).mono ?_; rw [decide_eq_true rfl]; rintro e v13 ⟨rfl, hb13⟩; have hM := hM.trans (hb13.mono hM.size); clear hb13)
              (refine hK _ _ (HCL.out _ hM) (fun hF3 => ?_); clear hK K hF2)
              try simp only [Act.put, List.setIfInBounds_toArray, List.set_cons_zero, List.set_cons_succ]
              (refine wpAnyP_takeL (i := 25) (v := ?_) rfl (by kernel_rfl) (by kernel_rfl) (by kernel_rfl) (fun _ _ _ h => h) (by rfl) ?_ ?_; rotate_left 1; focus (intro w; go_simp; try with_reducible rfl))
              try simp only [Act.put, List.setIfInBounds_toArray, List.set_cons_zero, List.set_cons_succ]
              (refine wpAnyP_takeL (i := 26) (v := ?_) rfl (by kernel_rfl) (by kernel_rfl) (by kernel_rfl) (fun _ _ _ h => h) (by rfl) ?_ ?_; rotate_left 1; focus (intro w; go_simp; try with_reducible rfl))
              try simp only [Act.put, List.setIfInBounds_toArray, List.set_cons_zero, List.set_cons_succ]
              refine wpAnyP_done (by kernel_rfl) ?_ _
              have HBE := Lib.hid (HBR.out.trans ((HVC.out.trans (hM.mono HVC.out.size)).mono HBR.out.size))
              clear hM
              go_wp2_with fail
              go_roundw
              case rel => exact ⟨i + 1, by omega, by go_num, HBE.out⟩
              case measure => simp [intOf]; omega
          · obtain rfl : i = 3 := by omega
            go_wp2_with fail
            refine (kawake_any _).mono ?_
            rintro e w9 ⟨rfl, hB9⟩
            have HB9 := Lib.hid hB9
            clear hB9
            go_wp2_with fail
            go_ret
            have h1 := HWL.out.trans (HBR.out.mono HWL.out.size)
            exact ⟨rfl, h1.trans (HB9.out.mono h1.size)⟩
    · have dno : decide ((20 : Int) < (no : Int)) = true := by simp; omega
      go_enter Try.func3, Try.ntmps3
      go_wp2_with (first | (go_at_call 13; refine (HVA.out _).mono ?_; rintro e w1 ⟨rfl, hb1⟩; have HB1 := Lib.hid hb1; clear hb1) | (go_at_call 14; refine (kawake_any _).mono ?_; rintro e w2 ⟨rfl, hb2⟩; have HB2 := Lib.hid hb2; clear hb2))
      go_ret
      exact ⟨rfl, HB0.out.trans ((HB1.out.trans (HB2.out.mono HB1.out.size)).mono (by simp))⟩
  · rw [vast_yes hv] at hva
    have HVA := Lib.hid hva
    clear hva hv
    go_enter Try.func3, Try.ntmps3
    go_wp2_with (first | (go_at_call 13; refine (HVA.out _).mono ?_; rintro e w1 ⟨rfl, hb1⟩; have HB1 := Lib.hid hb1; clear hb1) | (go_at_call 14; refine (kawake_any _).mono ?_; rintro e w2 ⟨rfl, hb2⟩; have HB2 := Lib.hid hb2; clear hb2))
    go_ret
    exact ⟨rfl, HB0.out.trans ((HB1.out.trans (HB2.out.mono HB1.out.size)).mono (by simp))⟩
end Go.Proofs.Ytkphgdkjjklajaa
