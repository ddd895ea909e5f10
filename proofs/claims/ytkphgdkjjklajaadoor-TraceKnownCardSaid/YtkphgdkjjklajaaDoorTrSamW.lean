/-
  trace.Samples: the walk.
-/
import Derived.Test.YtkphgdkjjklajaaDoorTrSam
set_option linter.unusedVariables false
set_option linter.unusedSimpArgs false
namespace Go.Proofs.YtkphgdkjjklajaaDoor
open Go.RowKit Go.Shelf Go.Sort
attribute [local go_sem] Oper.semAt_some

theorem results_S {tmps : Array Value} {W : World} {a b : Nat} {u v : Value} (h4 : tmps[4]?.getD undef = .pointer (some ⟨a, 0, none⟩)) (h5 : tmps[5]?.getD undef = .pointer (some ⟨b, 0, none⟩)) (q4 : W.cell? ⟨a, 0, none⟩ = some u) (q5 : W.cell? ⟨b, 0, none⟩ = some v) :
    (results Tryd.f15 tmps).run Tryd.prog W = .ok (.tuple #[u, v]) W := by
  simp [results, Tryd.results15, go_sem, h4, h5, q4, q5]

set_option maxRecDepth 100000 in
set_option maxHeartbeats 2000000 in
theorem Samples_err (b1 b2 b3 : Nat) (Ab Am Ao : Option Addr) (nb cb nm cm no co : Nat) (bs : List Int) (ms : List Mv) (l : List Int) (w : World) (hM : NetM w b1 b2 Ab Am nb cb nm cm bs ms) (hnb : nb ≤ 100000) (hnm : nm ≤ 100000) (hO : Sl encI 1 w b3 Ao no l) (hno : no ≤ 100000) (hc : chkO bs ms l ≠ 0) :
    Calls Tryd.prog 15 #[netV Ab Am nb cb nm cm, .slice Ao no co] w fun e w' => e = .returned (.tuple #[.slice none 0 0, .int .i64 (chkO bs ms l)]) ∧ Below w.heap.size w w' := by
  have hE := SamEnv.new w (Ab := Ab) (Am := Am) (Ao := Ao) (nb := nb) (cb := cb) (nm := nm) (cm := cm) (no := no) (co := co)
  have c0 := hE.n.cell 0
  have c1 := hE.n.cell 1
  have c2 := hE.s.cell 0
  have hcon := checkOrigins_any b1 b2 b3 Ab Am Ao nb cb nm cm no co bs ms l _ (hM.old hE.low) hnb hnm (hO.old hE.low) hno
  obtain ⟨x, hx⟩ : ∃ x, x = chkO bs ms l := ⟨_, rfl⟩
  rw [← hx] at hcon hc ⊢
  have hxx : (x == 0) = false := by simp [hc]
  have hxx2 : (x != 0) = true := by simp [hc]
  have HE := Lib.hid hE
  have HC := Lib.hid hcon
  clear hE hcon hM hO hx hc
  go_enter Tryd.func15, Tryd.ntmps15
  go_upto_region 3 with (go_at_call 23; refine HC.out.mono ?_; rintro e w1 ⟨rfl, hb1⟩; have HB1 := Lib.hid hb1; clear hb1)
  have hE1 := HE.out.below HB1.out
  have HE1 := Lib.hid hE1
  clear c0 c1 c2
  have f4 := hE1.r4.frozen 0
  have f5 := hE1.r5.frozen 0
  have g5 := (hE1.r4.set_ 0 (.slice none 0 0))
  have g6 := (hE1.r5.far (p := ⟨w.heap.size + 2, 0, none⟩) (by show w.heap.size + 3 ≠ w.heap.size + 2; omega) (.slice none 0 0))
  have f6 := g6.frozen 0
  have e4 := hE1.r4.cell 0
  have e6 := g6.cell 0
  have q4 := (g5.far (p := ⟨w.heap.size + 3, 0, none⟩) (by show w.heap.size + 2 ≠ w.heap.size + 3; omega) (.int .i64 x)).cell 0
  have q5 := (g6.set_ 0 (.int .i64 x)).cell 0
  have HQ := Lib.hid (And.intro q4 q5)
  clear hE1 g5 g6 q4 q5
  go_wp2_with fail
  obtain ⟨q4, q5⟩ := HQ.out
  refine bodyPost_ret (v := .tuple #[.slice none 0 0, .int .i64 x]) (results_S rfl rfl q4 q5) rfl ?_
  exact ⟨rfl, (HE1.out.low.setCell (p := ⟨w.heap.size + 2, 0, none⟩) (by show w.heap.size ≤ w.heap.size + 2; omega) _).setCell (p := ⟨w.heap.size + 3, 0, none⟩) (by show w.heap.size ≤ w.heap.size + 3; omega) _⟩

set_option maxRecDepth 100000 in
set_option maxHeartbeats 8000000 in
theorem Samples_ok (b1 b2 b3 : Nat) (Ab Am Ao : Option Addr) (nb cb nm cm no co : Nat) (bs : List Int) (ms : List Mv) (l : List Int) (w : World) (hM : NetM w b1 b2 Ab Am nb cb nm cm bs ms) (hO : Sl encI 1 w b3 Ao no l) (hco : no ≤ co) (hc : chkO bs ms l = 0) :
    Calls Tryd.prog 15 #[netV Ab Am nb cb nm cm, .slice Ao no co] w (SamPost bs ms l w) := by
  obtain ⟨hN, hl⟩ := chkO_in hc
  have hmm := @run_makeMap Tryd.prog
  have hmf : ∀ (fn : Fn) (first cap : Array Value) (w : World), (Instr.makeFunc fn first cap).run Tryd.prog w = .ok (.func fn first cap) w := fun _ _ _ _ => rfl
  have hE := SamEnv.new w (Ab := Ab) (Am := Am) (Ao := Ao) (nb := nb) (cb := cb) (nm := nm) (cm := cm) (no := no) (co := co)
  have c0 := hE.n.cell 0
  have c1 := hE.n.cell 1
  have c2 := hE.s.cell 0
  have hno8 : no ≤ 8 := by have := hO.len; have := orig_len hl.nodup hl.rg hN.n1; omega
  have hnb8 : nb ≤ 8 := by have := hM.b.len; have := hN.n1; omega
  have hnb0 : 0 < nb := by have := hM.b.len; have := hN.n0; omega
  have hcon := checkOrigins_any b1 b2 b3 Ab Am Ao nb cb nm cm no co bs ms l _ (hM.old hE.low) (by omega) (by have := hM.m.len; have := hN.m1; omega) (hO.old hE.low) (by omega)
  rw [hc] at hcon
  have HNB := Lib.hid hM.b.len
  have HNO := Lib.hid hO.len
  have HE := Lib.hid hE
  have HC := Lib.hid hcon
  have HM := Lib.hid hM
  have HO := Lib.hid hO
  have HN := Lib.hid hN
  have HL := Lib.hid hl
  clear hE hcon hM hO hc hN hl
  refine (callsIn_wide (n := 9)).1 (callsIn_of_wp_marks Tryd.func15 rfl trivial (wpIn_wide.2 (Code.wp_mono npQ_le ?_)) rfl)
  simp only [Tryd.ntmps15, List.size_toArray, List.length_cons, List.length_nil, Nat.reduceAdd, Nat.reduceSub, Array.replicate_succ, Array.replicate_zero, List.push_toArray, List.append_toArray, List.nil_append, List.cons_append]
  go_upto_region 4 with (go_at_call 23; refine HC.out.mono ?_; rintro e w1 ⟨rfl, hb1⟩; have HB1 := Lib.hid hb1; clear hb1)
  have hE1 := HE.out.below HB1.out
  have HE1 := Lib.hid hE1
  clear c0 c1 c2 hE1
  go_upto_region 5 with fail
  have hz1 : w.heap.size + 3 < w1.heap.size := HE1.out.r5.lt
  have hb2 : Below w1.heap.size w1 ((w1.alloc (.map #[] 0)).alloc (.cells #[.map (some w1.heap.size)] 64)) := ((Below.refl _ w1).alloc (Nat.le_refl _) _).alloc (by simp) _
  have hT0 : Told ((w1.alloc (.map #[] 0)).alloc (.cells #[.map (some w1.heap.size)] 64)) (w1.heap.size + 1) w1.heap.size (fun _ => ⟨none, 0, 0⟩) nb (fun s => reachT bs ms [s]) [] := by
    have b := Blk.new (w1.alloc (.map #[] 0)) 64 #[.map (some w1.heap.size)]
    rw [World.size_alloc] at b
    refine ⟨b, ?_, fun a ha => by cases ha⟩
    exact (KMap.new w1).alloc _
  have hE2 := HE1.out.below hb2
  obtain ⟨V0, hV0⟩ : ∃ V0, (w1.alloc (.map #[] 0)).alloc (.cells #[.map (some w1.heap.size)] 64) = V0 := ⟨_, rfl⟩
  rw [hV0] at hT0 hE2 ⊢
  rw [hV0] at hb2
  have c2 := hE2.s.cell 0
  have HB2 := Lib.hid hb2
  have HT0 := Lib.hid hT0
  have HE2 := Lib.hid hE2
  clear hT0 hE2 hV0 hb2
  go_wp2_with fail
  clear c2
  have hX : ∀ a, (reachT bs ms [a]).length = nb := fun a => by unfold reachT; rw [List.length_map, rg_length, ← HNB.out]
  have HX := Lib.hid hX
  have hrc : ∀ (W : World) (a : Int) (Ba : Nat) (Aa : Option Addr) (ca : Nat), Below w.heap.size w W → a ∈ l → Sl encI 1 W Ba Aa 1 [a] → Calls Tryd.prog 24 #[netV Ab Am nb cb nm cm, .slice Aa 1 ca] W fun e w' => ∃ A c, e = .returned (.slice A nb c) ∧ w'.ownsRow W.heap.size 40 2 (.slice A nb c) nb ((reachT bs ms [a]).flatMap encR) ∧ Below W.heap.size W w' :=
    fun W a Ba Aa ca hW ha hs => reach_any b1 b2 Ba Ab Am Aa nb cb nm cm 1 ca bs ms [a] W HN.out (HM.out.old hW) hs ⟨fun o ho => by rw [List.mem_singleton.1 ho]; exact HL.out.rg a ha, List.pairwise_singleton ..⟩
  have HRC := Lib.hid hrc
  have hok : ∀ a ∈ l, okI a := fun a ha => by
    obtain ⟨h0, h1⟩ := HL.out.rg a ha
    have := HN.out.n1
    exact WalkArith.wf_i64 (by omega)
  have HOK := Lib.hid hok
  clear hX hrc hok
  have hbt : w1.heap.size + 1 < V0.heap.size := HT0.out.t.lt
  go_loopw [26] (fun i wr => ∃ (k : Nat) (T : Int → SpD), k ≤ no ∧ i = .int .i64 k ∧ Told wr (w1.heap.size + 1) w1.heap.size T nb (fun s => reachT bs ms [s]) (l.take k) ∧ SamEnv w wr Ab Am Ao nb cb nm cm no co ∧ Below w1.heap.size w1 wr) (fun i _ => no - (intOf i).toNat)
  case atStart => exact ⟨0, _, Nat.zero_le _, rfl, HT0.out, HE2.out, HB2.out⟩
  case round =>
    obtain ⟨k, T, hk, rfl, hT, hE, hB⟩ := hrel
    have HT := Lib.hid hT
    have HE := Lib.hid hE
    have HB := Lib.hid hB
    by_cases hlt : k < no
    · have hkl : k < l.length := by have := HNO.out; omega
      obtain ⟨o, rfl, hbz, s0⟩ := (HO.out.old hE.low).atI hkl
      have hal := List.getElem_mem hkl
      have HTK := Lib.hid (List.take_succ_eq_append_getElem hkl)
      generalize l[k] = a at s0 hal HTK
      have i0 : (0 : Int) ≤ (k : Int) := by omega
      have i1 : (k : Int) < (no : Int) := by omega
      clear hT hE hB
      go_upto_region 8 with fail
      obtain ⟨V, hV⟩ : ∃ V, V = wr.drew := ⟨_, rfl⟩
      have hF : ∀ W, Below wr.heap.size wr W → W.cell? ⟨w1.heap.size + 1, 0, none⟩ = some (.map (some w1.heap.size)) ∧ W.cell? ⟨w.heap.size, 0, none⟩ = some (.slice Ab nb cb) ∧ W.cell? ⟨w.heap.size, 1, none⟩ = some (.slice Am nm cm) := fun W hW =>
        ⟨(HT.out.below hW).t.cell 0, (HE.out.below hW).n.cell 0, (HE.out.below hW).n.cell 1⟩
      have HF := Lib.hid hF
      have hB0 : Below wr.heap.size wr wr.drew := (Below.refl _ wr).drew
      have hB1 : Below wr.heap.size wr (wr.drew.alloc (.cells #[.int .i64 a] 3)) := hB0.alloc (Nat.le_refl _) _
      have hcon := HRC.out (wr.drew.alloc (.cells #[.int .i64 a] 3)) a wr.heap.size (some ⟨wr.heap.size, 0, none⟩) 1 (HE.out.low.trans (hB1.mono HE.out.low.size)) hal (Sl.newI wr.drew [a] 3)
      have HRE := Lib.hid hcon
      have HB0 := Lib.hid hB0
      have HB1' := Lib.hid hB1
      have hoka := HOK.out a hal
      clear hF hV hB0 hB1 hcon
      refine wp_region_PL [0, 2] (fun W => W.cell? ⟨w1.heap.size + 1, 0, none⟩ = some (.map (some w1.heap.size)) ∧ W.cell? ⟨w.heap.size, 0, none⟩ = some (.slice Ab nb cb) ∧ W.cell? ⟨w.heap.size, 1, none⟩ = some (.slice Am nm cm)) rfl (by kernel_rfl) (HF.out _ HB0.out) (fun hF0 => ?_)
      (refine wpAnyP_loadL (i := 0) (v := ?_) rfl (by kernel_rfl) (by kernel_rfl) (by kernel_rfl) (by rfl) (fun _ _ _ h => h) hF0 (by rfl) ?_ ?_; rotate_left 1; focus (intro w hFw; (try dsimp only at hFw); go_split_ands; go_simp; try with_reducible rfl))
      try simp only [Act.put, List.setIfInBounds_toArray, List.set_cons_zero, List.set_cons_succ]
      (refine wpAnyP_takeL (i := 1) (v := ?_) rfl (by kernel_rfl) (by kernel_rfl) (by kernel_rfl) (fun _ _ _ h => h) (by rfl) ?_ ?_; rotate_left 1; focus (intro w; go_simp; try with_reducible rfl))
      try simp only [Act.put, List.setIfInBounds_toArray, List.set_cons_zero, List.set_cons_succ]
      (refine wpAnyP_loadL (i := 2) (v := ?_) rfl (by kernel_rfl) (by kernel_rfl) (by kernel_rfl) (by rfl) (fun _ _ _ h => h) hF0 (by rfl) ?_ ?_; rotate_left 1; focus (intro w hFw; (try dsimp only at hFw); go_split_ands; go_simp; try with_reducible rfl))
      try simp only [Act.put, List.setIfInBounds_toArray, List.set_cons_zero, List.set_cons_succ]
      (refine wpAnyP_takeL (i := 3) (v := ?_) rfl (by kernel_rfl) (by kernel_rfl) (by kernel_rfl) (fun _ _ _ h => h) (by rfl) ?_ ?_; rotate_left 1; focus (intro w; go_simp; try with_reducible rfl))
      try simp only [Act.put, List.setIfInBounds_toArray, List.set_cons_zero, List.set_cons_succ]
      refine wpAnyP_step (i := 4) rfl (by kernel_rfl) (by rfl) (fun K hK => ?_)
      go_simp
      (refine hK _ _ (HF.out _ HB1'.out) (fun hF1 => ?_); clear hK K hF0)
      try simp only [Act.put, List.setIfInBounds_toArray, List.set_cons_zero, List.set_cons_succ]
      refine wpAnyP_step (i := 5) rfl (by kernel_rfl) (by rfl) (fun K hK => ?_)
      go_simp
      (refine HRE.out.mono ?_; rintro e wA ⟨A1, c1, rfl, hown, hBA⟩; have hMA := HB1'.out.trans (hBA.mono HB1'.out.size))
      (refine hK _ _ (HF.out _ hMA) (fun hF2 => ?_); clear hK K hF1)
      try simp only [Act.put, List.setIfInBounds_toArray, List.set_cons_zero, List.set_cons_succ]
      refine wpAnyP_last (i := 6) rfl (by kernel_rfl) (by kernel_rfl) (by rfl) (fun K hK => ?_)
      (refine wp_updateK _ _ _ 64 34 rfl kkI Tryd.underlying64 w1.heap.size _ (by rfl) (HT.out.below hMA).m a (by rfl) hoka (.slice A1 nb c1) (by rfl) ?_; intro w2 hk2 hg2 hs2)
      (refine hK _ _ ?_; clear hK K)
      try simp only [Act.put, List.setIfInBounds_toArray, List.set_cons_zero, List.set_cons_succ]
      refine wpAnyP_done (by kernel_rfl) ?_ _
      have HW2 := Lib.hid (And.intro hk2 (And.intro hg2 hs2))
      have HOW := Lib.hid hown
      have HBA := Lib.hid hBA
      have HMA := Lib.hid hMA
      clear hk2 hg2 hs2 hown hBA hMA
      go_wp2_with fail
      go_roundw
      case rel =>
        obtain ⟨hk2, hg2, hs2⟩ := HW2.out
        obtain ⟨bA, hbA, hsA⟩ := Sl.of_own (enc := encR) encR_len (by rw [HX.out]) HOW.out
        refine ⟨k + 1, (fun q => if q = a then ⟨A1, bA, c1⟩ else T q), by omega, by go_num, ?_, ?_, ?_⟩
        · rw [HTK.out]
          exact (HT.out.below HMA.out).turn hnb0 hsA hg2 hk2
        · exact (HE.out.below HMA.out).grown hg2 hz1
        · exact (HB.out.trans (HMA.out.mono HB.out.size)).grown hg2 (Nat.le_trans HB.out.size HMA.out.size) (fun j e => by cases e; exact Nat.le_refl _)
      case measure => simp [intOf]; omega
    · obtain rfl : k = no := by omega
      have hTl : Told wr (w1.heap.size + 1) w1.heap.size T nb (fun s => reachT bs ms [s]) l := by
        have h := hT
        rwa [HNO.out, List.take_length] at h
      have HTL := Lib.hid hTl
      clear hT hE hB hTl
      obtain ⟨wa, rfl⟩ : ∃ wa : World, wa = wr := ⟨_, rfl⟩
      have e1 := hmf (.func 30) #[] #[.pointer (some ⟨w1.heap.size + 1, 0, none⟩)]
      go_wp2_with fail
      have hE := HE.out.below ((Below.refl _ wa).alloc (Nat.le_refl _) (.cells #[.func (.func 30) #[] #[.pointer (some ⟨w1.heap.size + 1, 0, none⟩)]] 48))
      have hT := HTL.out.below ((Below.refl _ wa).alloc (Nat.le_refl _) (.cells #[.func (.func 30) #[] #[.pointer (some ⟨w1.heap.size + 1, 0, none⟩)]] 48))
      have h10 := Blk.new wa 48 #[.func (.func 30) #[] #[.pointer (some ⟨w1.heap.size + 1, 0, none⟩)]]
      obtain ⟨V2, hV2⟩ : ∃ V2, wa.alloc (.cells #[.func (.func 30) #[] #[.pointer (some ⟨w1.heap.size + 1, 0, none⟩)]] 48) = V2 := ⟨_, rfl⟩
      rw [hV2] at hE hT h10 ⊢
      have hz2 : w.heap.size + 3 < V2.heap.size := hE.r5.lt
      have HE3 := Lib.hid hE
      have HT3 := Lib.hid hT
      have H10 := Lib.hid h10
      clear hE hT h10 hV2 e1
      refine wp_loop (fun a W => ∃ (many : Nat) (ds : List Nat) (v38 v39 v40 v41 v42 v43 v44 v45 v46 v47 v48 v49 : Value), a = { tmps := #[netV Ab Am nb cb nm cm, .slice Ao k co, .pointer (some ⟨w.heap.size, 0, none⟩), .pointer (some ⟨w.heap.size + 1, 0, none⟩), .pointer (some ⟨w.heap.size + 1 + 1, 0, none⟩), .pointer (some ⟨w.heap.size + 1 + 1 + 1, 0, none⟩), .int .i64 0, .pointer (some ⟨w1.heap.size + 1, 0, none⟩), undef, u9, .pointer (some ⟨wa.heap.size, 0, none⟩), .int .i64 many, undef, undef, undef, undef, undef, .agg #[.slice Ab nb cb, .slice Am nm cm], .slice Ao k co, .int .i64 0, .int .i64 0, .bool false, undef, .map (some w1.heap.size), .slice Ao k co, .int .i64 k, .int .i64 k, .bool false, u28, u29, u30, u31, u32, u33, u34, u35, u36, .func (.func 30) #[] #[.pointer (some ⟨w1.heap.size + 1, 0, none⟩)], v38, v39, v40, v41, v42, v43, v44, v45, v46, v47, v48, v49, undef, undef, undef, undef, undef, undef, undef, undef, undef, undef, undef, undef, undef, undef, undef, undef, undef, undef, undef, undef, undef, undef, undef], defers := ds.map markD } ∧ many ≤ nb + 1 ∧ Below V2.heap.size V2 W ∧ Marks V2.heap.size W ds ∧ ∀ j, j < many → ∀ y ∈ choT nb j 0, apartT (l.map fun s => reachT bs ms [s]) y = false)
        (fun a _ => nb + 1 - (intOf (a.tmps.getD 11 undef)).toNat) ⟨0, [], undef, undef, undef, undef, undef, undef, undef, undef, undef, undef, undef, undef, rfl, by omega, Below.refl _ _, ⟨List.nodup_nil, fun D hD => by cases hD⟩, fun j hj => absurd hj (Nat.not_lt_zero _)⟩ ?_
      rintro a W ⟨many, ds, v38, v39, v40, v41, v42, v43, v44, v45, v46, v47, v48, v49, rfl, hmany, hB, hMk, hno⟩
      have HBW := Lib.hid hB
      have HMK := Lib.hid hMk
      have HNF := Lib.hid hno
      have d0 := (HE3.out.below hB).n.cell 0
      have d1 := (HE3.out.below hB).n.cell 1
      clear hB hMk hno
      by_cases hle : many ≤ nb
      · have hle2 : (many : Int) ≤ (nb : Int) := by omega
        go_wp2_with fail
        refine wp_scope_straight ?_
        refine wp_seq (wp_label ?_)
        go_wp2_with (go_at_call 31; refine (choices_any nb many _).mono ?_; rintro e w' ⟨rfl, rfl⟩)
        have hgz : ((W.alloc (.cells #[.int .i64 nb] 3)).alloc (.cells #[.int .i64 many] 3)).heap.size = W.heap.size + 2 := by simp
        have hb3 : Below W.heap.size W ((W.alloc (.cells #[.int .i64 nb] 3)).alloc (.cells #[.int .i64 many] 3)) := ((Below.refl _ W).alloc (Nat.le_refl _) _).alloc (by simp) _
        have hn3 := (Blk.new W 3 #[.int .i64 nb]).alloc (.cells #[.int .i64 many] 3)
        have hm3 := Blk.new (W.alloc (.cells #[.int .i64 nb] 3)) 3 #[.int .i64 many]
        rw [World.size_alloc] at hm3
        obtain ⟨W3, hW3⟩ : ∃ W3, (W.alloc (.cells #[.int .i64 nb] 3)).alloc (.cells #[.int .i64 many] 3) = W3 := ⟨_, rfl⟩
        rw [hW3] at hgz hb3 hn3 hm3 ⊢
        have HB3 := Lib.hid hb3
        have HN3 := Lib.hid hn3
        have HM3 := Lib.hid hm3
        clear hW3 hb3 hn3 hm3
        have hds : ∀ D ∈ ds, D < W3.heap.size := fun D hD => by have := (Array.getElem?_eq_some_iff.1 (HMK.out.at_ D hD).2).1; omega
        have HDS := Lib.hid hds
        have hzW : V2.heap.size ≤ W.heap.size := HBW.out.size
        rename_i K3 aK3
        refine wpIn_wide.1 (wpIn_range_gv (n := 9) rfl (by omega) (gf := 45) (lb := #[.pointer (some ⟨W.heap.size + 1, 0, none⟩), .pointer (some ⟨W.heap.size, 0, none⟩)]) rfl trivial (enters_of Tryd.func45 (by kernel_rfl) rfl)
          (gives_any _ W.heap.size (W.heap.size + 1) many nb hnb8 (by omega) W3 HN3.out HM3.out) Ks.trans (fun W L o o' _ h1 h2 => Ks.putRec h1 h2) (fun x A B h hg => giveL_ks _ x A B h hg) (Below.refl _ _) (fun _ => rfl)
          (fun pre W' => Below W3.heap.size W3 W' ∧ ∀ y ∈ pre, apartT (l.map fun s => reachT bs ms [s]) y = false) (SamHit bs ms l w nb many W3.heap.size V2.heap.size ds)
          (fun pre X Y row h hg hr => ⟨h.1.grown hg h.1.size (fun j e => (hr j e).1), h.2⟩) (fun X Y row h hg hr => h.rec_ hg (fun D hD e => by have := (hr D e.symm).1; have := HDS.out D hD; omega) (fun r e => ⟨by have := (hr r e).1; omega, (hr r e).2⟩)) ⟨Below.refl _ _, fun y hy => by cases hy⟩
          (fun x a' _ => a' = { tmps := #[netV Ab Am nb cb nm cm, .slice Ao k co, .pointer (some ⟨w.heap.size, 0, none⟩), .pointer (some ⟨w.heap.size + 1, 0, none⟩), .pointer (some ⟨w.heap.size + 1 + 1, 0, none⟩), .pointer (some ⟨w.heap.size + 1 + 1 + 1, 0, none⟩), .int .i64 0, .pointer (some ⟨w1.heap.size + 1, 0, none⟩), undef, u9, .pointer (some ⟨wa.heap.size, 0, none⟩), .int .i64 many, .slice x.A x.n x.c, undef, undef, undef, undef, .agg #[.slice Ab nb cb, .slice Am nm cm], .slice Ao k co, .int .i64 0, .int .i64 0, .bool false, undef, .map (some w1.heap.size), .slice Ao k co, .int .i64 k, .int .i64 k, .bool false, u28, u29, u30, u31, u32, u33, u34, u35, u36, .func (.func 30) #[] #[.pointer (some ⟨w1.heap.size + 1, 0, none⟩)], .int .i64 many, .pointer (some ⟨w.heap.size, 0, none⟩), .slice Ab nb cb, .int .i64 nb, .bool true, v43, v44, .pointer (some ⟨w.heap.size, 0, none⟩), .slice Ab nb cb, .int .i64 nb, .int .i64 many, .func (.func 45) #[] #[.pointer (some ⟨W.heap.size + 1, 0, none⟩), .pointer (some ⟨W.heap.size, 0, none⟩)], .slice x.A x.n x.c, undef, undef, undef, undef, undef, undef, undef, undef, undef, undef, undef, undef, undef, undef, undef, undef, undef, undef, undef, undef, undef, undef], defers := [] }) (fun x a' W L o o' h _ _ _ => h) ?assign ?body ?done ?stop)
        case assign =>
          intro L pre x W K2 hI hK2
          gi_wp2
          exact hK2 _ _ (KeepsRec.refl _) (Ks.refl _) hI rfl
        case body =>
          rintro L pre x rest a' Wb hxs hgv ⟨hBb, hpre⟩ rfl
          have hB2b : Below V2.heap.size V2 Wb := (HBW.out.trans (HB3.out.mono hzW)).trans (hBb.mono (by omega))
          have HEB := Lib.hid (HE3.out.below hB2b)
          have HTB := Lib.hid (HT3.out.below hB2b)
          have HBB := Lib.hid hBb
          have HB2B := Lib.hid hB2b
          have H10B := Lib.hid (H10.out.below hB2b H10.out.lt)
          have HGV := Lib.hid hgv
          have HXS := Lib.hid hxs
          have HPRE := Lib.hid hpre
          have hxm : x.l ∈ choT nb many 0 := by rw [hxs]; simp
          have HXM := Lib.hid (choT_mem hxm)
          have hxn : x.n = x.l.length := by have := hgv.1; rw [flat_len encI_len] at this; omega
          have hxn8 : x.n ≤ 8 := by have := choT_len hxm; omega
          obtain ⟨bx, hbx, hsx⟩ := Sl.of_own (enc := encI) encI_len hxn hgv
          have HSX := Lib.hid hsx
          have hbo : 0 < k → b3 < w.heap.size := fun h => HO.out.lt h
          have c2 := HEB.out.s.cell 0
          clear hBb hpre hB2b hgv hxs hxm hsx d0 d1
          gi_wp2
          gi_loopw [53] (fun i wi => ∃ i0 : Nat, i0 ≤ k ∧ i = .int .i64 i0 ∧ Below Wb.heap.size Wb wi ∧ ∀ i, i < i0 → ∀ j, j < i → tellI (fun s => reachT bs ms [s]) l x.l i j = true) (fun i _ => k - (intOf i).toNat)
          case atStart => exact ⟨0, Nat.zero_le _, rfl, Below.refl _ _, fun i hi => absurd hi (Nat.not_lt_zero _)⟩
          case round =>
            obtain ⟨i0, hi0, rfl, hBi, hti⟩ := hrel
            have HBI := Lib.hid hBi
            have HTI := Lib.hid hti
            have c2i := (HEB.out.below hBi).s.cell 0
            clear hBi hti c2
            by_cases hlt : i0 < k
            · have hkl : i0 < l.length := by have := HNO.out; omega
              obtain ⟨o, rfl, hbz, s0⟩ := (HO.out.old (HEB.out.below HBI.out).low).atI hkl
              have hal := List.getElem_mem hkl
              have HGA := Lib.hid (show l[i0] = l.getD i0 0 by simp [List.getD_eq_getElem?_getD, hkl])
              obtain ⟨a, ha⟩ : ∃ a, a = l[i0] := ⟨_, rfl⟩
              rw [← ha] at s0 hal HGA
              have j0 : (0 : Int) ≤ (i0 : Int) := by omega
              have j1 : (i0 : Int) < (k : Int) := by omega
              have j2 : i0 ≤ co := by omega
              have hA0 := Blk.new wr 3 #[.int .i64 a]
              have HA0 := Lib.hid hA0
              have c3 := (HEB.out.below (HBI.out.alloc HBI.out.size (.cells #[.int .i64 a] 3))).s.cell 0
              clear hA0 ha
              gi_wp2
              have hB4 : Below Wb.heap.size Wb (wr.alloc (.cells #[.int .i64 a] 3)) := HBI.out.alloc HBI.out.size _
              have hA4 := HA0.out
              obtain ⟨B14, hB14⟩ : ∃ B, B = wr.heap.size := ⟨_, rfl⟩
              obtain ⟨W4, hW4⟩ : ∃ W4, wr.alloc (.cells #[.int .i64 a] 3) = W4 := ⟨_, rfl⟩
              rw [hW4, ← hB14] at hA4 ⊢
              rw [hW4] at hB4
              have HA4 := Lib.hid hA4
              have HB4 := Lib.hid hB4
              have hnoi : ∀ W', Below W4.heap.size W4 W' → Below Wb.heap.size Wb W' := fun W' h => HB4.out.trans (h.mono HB4.out.size)
              have HNI := Lib.hid hnoi
              clear hB4 hA4 hW4 hB14 c3 c2i hnoi
              have hmf2 := hmf
              gi_loopw [62] (fun i wj => ∃ j0 : Nat, j0 ≤ i0 ∧ i = .int .i64 j0 ∧ Below W4.heap.size W4 wj ∧ ∀ j, j < j0 → tellI (fun s => reachT bs ms [s]) l x.l i0 j = true) (fun i _ => i0 - (intOf i).toNat)
              case atStart => exact ⟨0, Nat.zero_le _, rfl, Below.refl _ _, fun i hi => absurd hi (Nat.not_lt_zero _)⟩
              case round =>
                obtain ⟨jj, hj0, rfl, hBj, htj⟩ := hrel
                have HBJ := Lib.hid hBj
                have HTJ := Lib.hid htj
                clear htj
                by_cases hlt2 : jj < i0
                · have hjl : jj < l.length := by omega
                  have hEj := HEB.out.below (HNI.out _ hBj)
                  obtain ⟨o2, ho2, hbz2, s1⟩ := (HO.out.old hEj.low).atI hjl
                  obtain rfl : o2 = o := by injection ho2 with h; injection h with _ h; exact h.symm
                  have hbl := List.getElem_mem hjl
                  have HGB := Lib.hid (show l[jj] = l.getD jj 0 by simp [List.getD_eq_getElem?_getD, hjl])
                  obtain ⟨b, hb⟩ : ∃ b, b = l[jj] := ⟨_, rfl⟩
                  rw [← hb] at s1 hbl HGB
                  have m0 : (0 : Int) ≤ (jj : Int) := by omega
                  have m1 : (jj : Int) < (i0 : Int) := by omega
                  have hB6 : Below W4.heap.size W4 (wr.alloc (.cells #[.int .i64 b] 3)) := hBj.alloc hBj.size _
                  have HB6 := Lib.hid hB6
                  have HK6 := Lib.hid (Blk.new wr 3 #[.int .i64 b])
                  have hsx2 : Sl encI 1 Wb bx x.A x.l.length x.l := by have := HSX.out; rwa [hxn] at this
                  have hcon := hasB_any bx x.l.length x.c x.A x.l 32 #[.pointer (some ⟨wa.heap.size, 0, none⟩), .pointer (some ⟨B14, 0, none⟩), .pointer (some ⟨wr.heap.size, 0, none⟩)] (fun y => tellsT (spanAt (reachT bs ms [a]) y) (spanAt (reachT bs ms [b]) y)) (wr.alloc (.cells #[.int .i64 b] 3)) (hsx2.old (HNI.out _ hB6)) (by omega) (enters_of Tryd.func32 (by kernel_rfl) rfl) (fun W' y hW' hy => by
                    obtain ⟨hy0, hy1⟩ := HXM.out y hy
                    obtain ⟨yk, rfl⟩ := Int.eq_ofNat_of_zero_le hy0
                    have hb6 := HNI.out _ (HB6.out.trans (hW'.mono HB6.out.size))
                    show Calls Tryd.prog 32 #[.int .i64 yk, .pointer (some ⟨wa.heap.size, 0, none⟩), .pointer (some ⟨B14, 0, none⟩), .pointer (some ⟨wr.heap.size, 0, none⟩)] _ _
                    exact sam2_any wa.heap.size B14 wr.heap.size _ _ _ nb (fun s => reachT bs ms [s]) l yk a b W' (HTB.out.below hb6) (by omega) hnb8 hal hbl (HX.out a) (HX.out b) (HOK.out a hal) (HOK.out b hbl) (H10B.out.below hb6 H10B.out.lt) (HA4.out.below (HB6.out.trans (hW'.mono HB6.out.size)) HA4.out.lt) (HK6.out.below hW' HK6.out.lt))
                  have HC := Lib.hid hcon
                  have HTE := Lib.hid (show tellI (fun s => reachT bs ms [s]) l x.l i0 jj = x.l.any fun y => tellsT (spanAt (reachT bs ms [a]) y) (spanAt (reachT bs ms [b]) y) by unfold tellI; rw [← HGA.out, ← HGB.out])
                  generalize (x.l.any fun y => tellsT (spanAt (reachT bs ms [a]) y) (spanAt (reachT bs ms [b]) y)) = res at HC HTE
                  clear hcon hsx2 hB6 hBj hEj ho2 hb
                  cases res with
                  | true =>
                    gi_wp2_with (refine ⟨trivial, ?_⟩; refine (CallsIn.inRound L (callsIn_wide.2 HC.out)).mono ?_; rintro e w7 ⟨rfl, hb7⟩; have HB7 := Lib.hid hb7; clear hb7)
                    refine ⟨⟨jj + 1, by omega, by go_num, HB6.out.trans (HB7.out.mono HB6.out.size), fun j hj => ?_⟩, by simp [intOf]; omega⟩
                    by_cases hjj : j = jj
                    · subst hjj; exact HTE.out
                    · exact HTJ.out j (by omega)
                  | false =>
                    gi_wp2_with (refine ⟨trivial, ?_⟩; refine (CallsIn.inRound L (callsIn_wide.2 HC.out)).mono ?_; rintro e w7 ⟨rfl, hb7⟩; have HB7 := Lib.hid hb7; clear hb7)
                    have hfin := HNI.out _ (HB6.out.trans (HB7.out.mono HB6.out.size))
                    refine ⟨KeepsRec.below hfin, Ks.of_below hfin, HBB.out.trans (hfin.mono HBB.out.size), fun y hy => ?_⟩
                    rcases List.mem_append.1 hy with h1 | h1
                    · exact HPRE.out y h1
                    · rw [List.mem_singleton.1 h1]
                      exact apart_no (i := i0) (k := jj) hkl hlt2 HTE.out
                · obtain rfl : jj = i0 := by omega
                  clear hBj
                  gi_wp2
                  refine ⟨⟨jj + 1, by omega, by go_num, HNI.out _ HBJ.out, fun i hi j hj => ?_⟩, by simp [intOf]; omega⟩
                  by_cases hii : i = jj
                  · subst hii; exact HTJ.out j hj
                  · exact HTI.out i (by omega) j hj
            · obtain rfl : i0 = k := by omega
              have HAP := Lib.hid (apart_yes (X := fun s => reachT bs ms [s]) (l := l) (x := x.l) (by rw [← HNO.out]; exact HTI.out))
              have hE9 := HEB.out.below HBI.out
              have HE9 := Lib.hid hE9
              have f4 := hE9.r4.frozen 0
              have g5 := hE9.r4.set_ 0 (.slice x.A x.l.length x.c)
              have g6 := hE9.r5.far (p := ⟨w.heap.size + 2, 0, none⟩) (by show w.heap.size + 3 ≠ w.heap.size + 2; omega) (.slice x.A x.l.length x.c)
              have f5 := hE9.r5.frozen 0
              have f6 := g6.frozen 0
              have e4 := hE9.r4.cell 0
              have e6 := g6.cell 0
              have b4 := g5.far (p := ⟨w.heap.size + 3, 0, none⟩) (by show w.heap.size + 2 ≠ w.heap.size + 3; omega) (.int .i64 0)
              have b5 := g6.set_ 0 (.int .i64 0)
              have HB4 := Lib.hid b4
              have HB5 := Lib.hid b5
              have HG6 := Lib.hid g6
              clear hE9 g5 g6 b4 b5
              gi_wp2
              refine ⟨((KeepsRec.below HBI.out).trans (KeepsRec.cell HE9.out.r4 _)).trans (KeepsRec.cell HG6.out _), ⟨pre, rest, x, HXS.out, HPRE.out, HAP.out, ?_, ?_⟩, HB5.out, ?_, ?_⟩
              · have h1 := (giveL_ks _ x _ _ (Ks.of_below HBI.out) HGV.out)
                exact ownsRow_setCell (ownsRow_setCell h1 (p := ⟨w.heap.size + 1 + 1, 0, none⟩) (by show w.heap.size + 1 + 1 < W3.heap.size; omega) _) (p := ⟨w.heap.size + 1 + 1 + 1, 0, none⟩) (by show w.heap.size + 1 + 1 + 1 < W3.heap.size; omega) _
              · have h1 := HB4.out
                rw [← hxn] at h1 ⊢
                exact h1
              · exact (HE9.out.low.setCell (p := ⟨w.heap.size + 2, 0, none⟩) (by show w.heap.size ≤ w.heap.size + 2; omega) _).setCell (p := ⟨w.heap.size + 3, 0, none⟩) (by show w.heap.size ≤ w.heap.size + 3; omega) _
              · have hm := ((HMK.out.below HB3.out).below HBB.out).below HBI.out
                refine ⟨hm.nd, fun D hD => ⟨(hm.at_ D hD).1, ?_⟩⟩
                rw [Below.heap_setCell _ _ _ _ (by show D ≠ w.heap.size + 3; have := (hm.at_ D hD).1; omega), Below.heap_setCell _ _ _ _ (by show D ≠ w.heap.size + 2; have := (hm.at_ D hD).1; omega)]
                exact (hm.at_ D hD).2
        case done =>
          rintro D Wd hD ⟨hBd, hall⟩ hdef
          have hB2d : Below V2.heap.size V2 Wd := (HBW.out.trans (HB3.out.mono hzW)).trans (hBd.mono (by omega))
          have HM4 := Lib.hid (((HMK.out.below HB3.out).below hBd).more (D := D) (fun d hd => by have := HDS.out d hd; omega) (by omega) hdef)
          have HB4 := Lib.hid hB2d
          have HAL := Lib.hid hall
          clear hBd hB2d hall hdef
          show K3 _ _
          refine aK3 _ _ ?_
          go_wp2_with fail
          refine ⟨⟨many + 1, D :: ds, _, _, _, _, _, _, _, _, _, _, _, _, rfl, by omega, HB4.out, HM4.out, fun j hj y hy => ?_⟩, ?_⟩
          · by_cases hjm : j = many
            · subst hjm; exact HAL.out y hy
            · exact HNF.out j (by omega) y hy
          · simp [intOf]; omega
        case stop =>
          rintro D Wd hD hit hdef
          have HIT := Lib.hid hit
          have hmk2 : Marks V2.heap.size Wd (D :: ds) := hit.mks.more (fun d hd => by have := HDS.out d hd; omega) (by omega) hdef
          have HM4 := Lib.hid hmk2
          clear hit hdef hmk2
          refine wpIn_ret ?_
          refine leaves_marks (B := V2.heap.size) (fun W => SamHit bs ms l w nb many W3.heap.size V2.heap.size [] W) (fun W D h hD hd => h.rec_ (grownBy_putObj' W D _) (fun D hD => by cases hD) (fun r e => by cases e; exact ⟨by omega, _, hd, rfl⟩)) (fun W h => ?_) (D :: ds) Wd HM4.out ⟨HIT.out.hit, HIT.out.r5, HIT.out.low, ⟨List.nodup_nil, fun D hD => by cases hD⟩⟩
          obtain ⟨pre, rest, x, h1, h2, h3, h4, h5⟩ := h.hit
          have hxn : x.n = x.l.length := by have := h4.1; rw [flat_len encI_len] at this; omega
          refine ⟨_, results_S rfl rfl (h5.cell 0) (h.r5.cell 0), .inl ⟨x.l, x.A, x.c, ?_, by rw [hxn]; rfl, ?_⟩, h.low⟩
          · have := samp_hit hle HNF.out h1 h2 h3
            unfold samplesT
            rw [← HNB.out]
            exact this
          · rw [← hxn]; exact ownsRow_base h4 (by omega)
      · have hle2 : ¬ (many : Int) ≤ (nb : Int) := by omega
        have hmn : many = nb + 1 := by omega
        have HMN := Lib.hid hmn
        have hE9 := HE3.out.below HBW.out
        have HE9 := Lib.hid hE9
        have f4 := hE9.r4.frozen 0
        have g5 := hE9.r4.set_ 0 (.slice none 0 0)
        have g6 := hE9.r5.far (p := ⟨w.heap.size + 2, 0, none⟩) (by show w.heap.size + 3 ≠ w.heap.size + 2; omega) (.slice none 0 0)
        have f5 := hE9.r5.frozen 0
        have f6 := g6.frozen 0
        have e4 := hE9.r4.cell 0
        have e6 := g6.cell 0
        have b4 := g5.far (p := ⟨w.heap.size + 3, 0, none⟩) (by show w.heap.size + 2 ≠ w.heap.size + 3; omega) (.int .i64 3)
        have b5 := g6.set_ 0 (.int .i64 3)
        have HB4 := Lib.hid b4
        have HB5 := Lib.hid b5
        clear hE9 g5 g6 b4 b5 hmn
        go_wp2_with fail
        refine leaves_marks (B := V2.heap.size) (fun W' => Blk W' (w.heap.size + 1 + 1) 22 #[.slice none 0 0] ∧ Blk W' (w.heap.size + 1 + 1 + 1) 30 #[.int .i64 3] ∧ Below w.heap.size w W') (fun W D h hD hd => ?_) (fun W h => ?_) ds _ ?_ ⟨HB4.out, HB5.out, ?_⟩
        · have hne : ∀ (k : Nat) (t : TypeId) (cs : Array Value), Blk W k t cs → some k ≠ some D := fun k t cs hb e => by
            injection e with e
            subst e
            unfold Blk at hb
            rw [hb] at hd
            cases hd
          have hg := grownBy_putObj' W D (.deferred none)
          exact ⟨h.1.grown hg (hne _ _ _ h.1), h.2.1.grown hg (hne _ _ _ h.2.1), h.2.2.grown hg h.2.2.size (fun j e => by cases e; omega)⟩
        · exact ⟨_, results_S rfl rfl (h.1.cell 0) (h.2.1.cell 0), .inr ⟨by
            unfold samplesT
            rw [← HNB.out]
            refine samp_none fun j hj => HNF.out j (by have := HMN.out; omega), rfl⟩, h.2.2⟩
        · refine ⟨HMK.out.nd, fun D hD => ⟨(HMK.out.at_ D hD).1, ?_⟩⟩
          rw [Below.heap_setCell _ _ _ _ (by show D ≠ w.heap.size + 3; have := (HMK.out.at_ D hD).1; omega), Below.heap_setCell _ _ _ _ (by show D ≠ w.heap.size + 2; have := (HMK.out.at_ D hD).1; omega)]
          exact (HMK.out.at_ D hD).2
        · exact (HE9.out.low.setCell (p := ⟨w.heap.size + 2, 0, none⟩) (by show w.heap.size ≤ w.heap.size + 2; omega) _).setCell (p := ⟨w.heap.size + 3, 0, none⟩) (by show w.heap.size ≤ w.heap.size + 3; omega) _
end Go.Proofs.YtkphgdkjjklajaaDoor
