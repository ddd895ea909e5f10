/-
  The walk of the law TraceNets.
-/
import Derived.Test.YtkphgdkjjklajaaNetU
import Derived.Test.YtkphgdkjjklajaaOpenNet
import Derived.Deep.CutRange
set_option linter.unusedVariables false
set_option linter.unusedSimpArgs false
namespace Go.Proofs.Ytkphgdkjjklajaa
open Go.RowKit Go.Shelf Go.Sort

/-- a net and origins, as they lie -/
structure NArg where
  b1 : Nat
  b2 : Nat
  b3 : Nat
  Ab : Option Addr
  Am : Option Addr
  Ao : Option Addr
  nb : Nat
  cb : Nat
  nm : Nat
  cm : Nat
  no : Nat
  co : Nat
  bs : List Int
  ms : List Mv
  l : List Int
structure NArg.Ok (x : NArg) (W : World) : Prop where
  m : NetM W x.b1 x.b2 x.Ab x.Am x.nb x.cb x.nm x.cm x.bs x.ms
  o : Sl encI 1 W x.b3 x.Ao x.no x.l
  nb : x.nb ≤ 100
  nm : x.nm ≤ 100
  no : x.no ≤ 100
  co : x.no ≤ x.co
theorem NArg.Ok.old {x : NArg} {W W' : World} (h : x.Ok W) (hb : Below W.heap.size W W') : x.Ok W' := ⟨h.m.old hb, h.o.old hb, h.nb, h.nm, h.no, h.co⟩
theorem vast_no {nb nm : Nat} (h : nb ≤ 20 ∧ nm ≤ 30) : (decide (20 < nb) || decide (30 < nm)) = false := by
  rw [decide_eq_false (by omega), decide_eq_false (by omega)]; rfl
theorem vast_yes {nb nm : Nat} (h : ¬ (nb ≤ 20 ∧ nm ≤ 30)) : (decide (20 < nb) || decide (30 < nm)) = true := by
  by_cases h1 : 20 < nb
  · rw [decide_eq_true h1]; rfl
  · rw [decide_eq_true (show 30 < nm by omega)]; simp

/-- a net's own block -/
def NtB (V W : World) (B : Nat) (cs : Array Value) : Prop := Blk W B 25 cs ∧ V.heap.size ≤ B
theorem NtB.newE {V W : World} (h : Below V.heap.size V W) : ∃ B, B = W.heap.size ∧ NtB V (W.alloc (.cells #[.slice none 0 0, .slice none 0 0] 25)) B #[.slice none 0 0, .slice none 0 0] := ⟨_, rfl, Blk.new _ _ _, h.size⟩
theorem NtB.old {V W W' : World} {B : Nat} {cs : Array Value} (h : NtB V W B cs) (hb : Below W.heap.size W W') : NtB V W' B cs := ⟨h.1.below hb h.1.lt, h.2⟩
theorem NtB.store {V W : World} {B : Nat} (u v : Value) (h : NtB V W B #[.slice none 0 0, .slice none 0 0]) (hV : Below V.heap.size V W) :
    NtB V ((W.setCell ⟨B, 0, none⟩ u).setCell ⟨B, 1, none⟩ v) B #[u, v] ∧ Below V.heap.size V ((W.setCell ⟨B, 0, none⟩ u).setCell ⟨B, 1, none⟩ v) :=
  ⟨⟨(h.1.set_ 0 u).set_ 1 v, h.2⟩, (hV.setCell (p := ⟨B, 0, none⟩) h.2 _).setCell (p := ⟨B, 1, none⟩) h.2 _⟩
theorem NtB.last {V W : World} (h : Below V.heap.size V W) (u v : Value) : NtB V (W.alloc (.cells #[u, v] 25)) W.heap.size #[u, v] ∧ Below V.heap.size V (W.alloc (.cells #[u, v] 25)) := ⟨⟨Blk.new _ _ _, h.size⟩, h.alloc h.size _⟩
theorem Sl.store2 {α : Type} {en : α → List Value} {q : Nat} {W : World} {b B n : Nat} {A : Option Addr} {l : List α} (h : Sl en q W b A n l) (hne : 0 < n → b ≠ B) (u v : Value) : Sl en q ((W.setCell ⟨B, 0, none⟩ u).setCell ⟨B, 1, none⟩ v) b A n l :=
  (h.setCell (p := ⟨B, 0, none⟩) hne u).setCell (p := ⟨B, 1, none⟩) hne v
theorem NetM.store2 {W : World} {b1 b2 B nb cb nm cm : Nat} {Ab Am : Option Addr} {bs : List Int} {ms : List Mv} (h : NetM W b1 b2 Ab Am nb cb nm cm bs ms) (h1 : (0 < nb → b1 ≠ B) ∧ (0 < nm → b2 ≠ B)) (u v : Value) : NetM ((W.setCell ⟨B, 0, none⟩ u).setCell ⟨B, 1, none⟩ v) b1 b2 Ab Am nb cb nm cm bs ms :=
  ⟨h.b.store2 h1.1 u v, h.m.store2 h1.2 u v, h.cb, h.cm⟩
theorem NetM.allocN {W : World} {b1 b2 nb cb nm cm : Nat} {Ab Am : Option Addr} {bs : List Int} {ms : List Mv} (h : NetM W b1 b2 Ab Am nb cb nm cm bs ms) (o : Obj) : NetM (W.alloc o) b1 b2 Ab Am nb cb nm cm bs ms := ⟨h.b.alloc o, h.m.alloc o, h.cb, h.cm⟩
theorem CopyPost.open {nb nm : Nat} {bs : List Int} {ms : List Mv} {w w' : World} {e : Ending} (h : CopyPost nb nm bs ms w e w') (hb : nb = bs.length) (hm : nm = ms.length) :
    ∃ (Ab Am : Option Addr) (cb cm b1 b2 : Nat), e = .returned (netV Ab Am nb cb nm cm) ∧ NetM w' b1 b2 Ab Am nb cb nm cm bs ms ∧ w.heap.size ≤ b1 ∧ w.heap.size ≤ b2 ∧ Below w.heap.size w w' := by
  obtain ⟨Ab, Am, cb, cm, rfl, h1, h2, _, h3⟩ := h
  obtain ⟨b1, k1, s1⟩ := Sl.of_own (enc := encI) encI_len hb h1
  obtain ⟨b2, k2, s2⟩ := Sl.of_own (enc := encM) encM_len hm h2
  exact ⟨Ab, Am, cb, cm, b1, b2, rfl, ⟨s1, s2, own_capN h1, own_capN h2⟩, k1, k2, h3⟩

set_option maxRecDepth 100000 in
set_option maxHeartbeats 4000000 in
theorem traceNets_any (Ab Am : Option Addr) (nb cb nm cm b1 b2 : Nat) (bs : List Int) (ms : List Mv) (Ao : Option Addr) (no co b3 : Nat) (l : List Int) (m : Mv) (A : Option Addr) (n c : Nat) (w : World) (hM : NetM w b1 b2 Ab Am nb cb nm cm bs ms) (hO : Sl encI 1 w b3 Ao no l) (hco : no ≤ co) (hN : Nums w A n) :
    Calls Try.prog 10 #[netV Ab Am nb cb nm cm, .slice Ao no co, .agg (encM m).toArray, .slice A n c] w fun e w' => e = .returned (.bool true) ∧ Below w.heap.size w w' := by
  obtain ⟨i0, hi, iz0, iz1, iz2⟩ := info_parts info_moveN
  obtain ⟨mf, mt, mg⟩ := m
  simp only [encM]
  have hBx := (Blk.new w 25 #[.slice Ab nb cb, .slice Am nm cm]).alloc (.cells #[.int .i64 mf, .int .i64 mt, .int .i64 mg] 61)
  have hBm := Blk.new (w.alloc (.cells #[.slice Ab nb cb, .slice Am nm cm] 25)) 61 #[.int .i64 mf, .int .i64 mt, .int .i64 mg]
  rw [World.size_alloc] at hBm
  have hb0 : Below w.heap.size w ((w.alloc (.cells #[.slice Ab nb cb, .slice Am nm cm] 25)).alloc (.cells #[.int .i64 mf, .int .i64 mt, .int .i64 mg] 61)) := by go_grown
  have HB0 := Lib.hid hb0
  have HBX := Lib.hid hBx
  have HBM := Lib.hid hBm
  have HM := Lib.hid hM
  have HO := Lib.hid hO
  have HNU := Lib.hid hN
  have c0 := hBx.cell 0
  have c1 := hBx.cell 1
  have hva := fun W => vast_any nb cb nm cm Ab Am W
  clear hb0 hBx hBm hM hO hN
  by_cases hv : nb ≤ 20 ∧ nm ≤ 30
  · rw [vast_no hv] at hva
    have HVA := Lib.hid hva
    have HV := Lib.hid hv
    clear hva hv
    by_cases hno : no ≤ 20
    · have dno : decide ((20 : Int) < (no : Int)) = false := by simp; omega
      go_enter Try.func10, Try.ntmps10
      go_upto_region 3 with (go_at_call 13; refine (HVA.out _).mono ?_; rintro e w1 ⟨rfl, hb1⟩; have HB1 := Lib.hid hb1; clear hb1)
      have HW1 := Lib.hid (HB0.out.trans (HB1.out.mono (by simp; omega)))
      have HBX1 := Lib.hid (HBX.out.below HB1.out HBX.out.lt)
      have HBM1 := Lib.hid (HBM.out.below HB1.out HBM.out.lt)
      clear c0 c1
      obtain ⟨wv, rfl⟩ : ∃ wv : World, wv = w1 := ⟨_, rfl⟩
      obtain ⟨bN, l0, hl0, hw0, hn0⟩ := HNU.out
      go_wp2_with fail
      refine (dieOf_any bN n c A l0 _ (hl0.old HW1.out) hn0 hw0).mono ?_
      rintro e w1 ⟨d, hd, rfl, hdie, hB1⟩
      have HBD := Lib.hid hB1
      have hz1 := hB1.size
      clear hl0 hw0 hB1
      go_wp2_with fail
      refine (one_any d _ 3 3 _ [5, 60, 100000] _ (hdie.alloc _) (Sl.newI w1 [5, 60, 100000] 3) (by omega) (by omega) (by have := hdie.lt; omega)).mono ?_
      rintro e w2 ⟨g, hg, rfl, hd2, hg2⟩
      have hgb : 0 ≤ g ∧ g ≤ 1000000 := by simp at hg; omega
      have HG2 := Lib.hid (only_step hg2 (only_alloc (only_refl w1 d) _) (.inl rfl))
      clear hg hg2
      go_wp2_with fail
      refine (netOf_any d 5 7 g _ hd2 (by omega) (by omega) (by omega) hgb.1 hgb.2).mono ?_
      rintro e w3 ⟨es, hs, e1, e2, Ae, Ah, ne, ce, nh, ch, hNI, hne, hnh, rfl, hNM, he1, he2, hd3, hg3⟩
      have hz2 := HG2.out.size
      have hdz2 := hd2.lt
      have hg13 := only_trans HG2.out hg3
      have hz3 := hg3.size
      have HB3 := Lib.hid (Below.stepG hg13 HBD.out (Nat.le_refl _) hd)
      have hnm3 := hNM.old ((Below.refl _ w3).alloc (Nat.le_refl _) (.cells #[.slice Ae ne ce, .slice Ah nh ch] 25))
      have hbk3 := Blk.new w3 25 #[.slice Ae ne ce, .slice Ah nh ch]
      have HNB := Lib.hid hNM.b.len
      have HNH := Lib.hid hNM.m.len
      have HNI := Lib.hid hNI
      have c0 := hbk3.cell 0
      have c1 := hbk3.cell 1
      have hd3lt : d < w3.heap.size := hd3.lt
      have HD3 := Lib.hid (hd3.alloc (.cells #[.slice Ae ne ce, .slice Ah nh ch] 25))
      have HBK3 := Lib.hid hbk3
      have HNM3 := Lib.hid hnm3
      have HEN := Lib.hid (show (0 < ne → e1 ≠ d) ∧ (0 < nh → e2 ≠ d) from ⟨fun _ e => by omega, fun _ e => by omega⟩)
      clear hd2 hNM hNI hd3 hg3 hg13 hnm3 hbk3 hdie
      go_wp2_with fail
      refine (originsOf_any d ne ce nh ch Ae Ah _ HD3.out (by omega)).mono ?_
      rintro e w4 ⟨k, Ak, ck, hk, rfl, hok, hd4, hg4⟩
      have hz4 := hg4.size
      simp only [World.size_alloc] at hz4
      obtain ⟨b4, hb4, hsk⟩ := Sl.of_own (enc := encI) encI_len rfl hok
      have hck := own_capN hok
      have hk8 : k.length ≤ 8 := by have := orig_len hk.nodup hk.rg (by omega); omega
      have HB4 := Lib.hid ((HB3.out.alloc HB3.out.size (.cells #[.slice Ae ne ce, .slice Ah nh ch] 25)).grown hg4 (by have := HB3.out.size; simp; omega) (fun j e => by cases e; exact hd))
      have HBK4 := Lib.hid (HBK3.out.grown hg4 (fun e => by have := hd3lt; injection e with e; omega))
      have HNM4 := Lib.hid (show NetM w4 e1 e2 Ae Ah ne ce nh ch es hs from ⟨HNM3.out.b.grown hg4 (fun h e => HEN.out.1 h (by injection e)), HNM3.out.m.grown hg4 (fun h e => HEN.out.2 h (by injection e)), HNM3.out.cb, HNM3.out.cm⟩)
      have HSK := Lib.hid hsk
      clear hok hd4 hg4 hsk hk c0 c1
      have c0 := HBK4.out.cell 0
      have c1 := HBK4.out.cell 1
      go_wp2_with fail
      refine (copyNet_any e1 e2 Ae Ah ne ce nh ch es hs _ HNM4.out (by omega) (by omega)).mono ?_
      rintro e w5 ⟨Am5, Ah5, cm5, ch5, rfl, hob, hom, hne5, hB5⟩
      have hz5 := hB5.size
      have HB5 := Lib.hid hB5
      have HOB := Lib.hid hob
      have HOM := Lib.hid hom
      have HNE5 := Lib.hid hne5
      clear hob hom hne5 hB5 c0 c1
      have HB4W := Lib.hid (show Below w.heap.size w w4 from HW1.out.trans (HB4.out.mono HW1.out.size))
      go_upto_region 7 with fail
      have hMo := Blk.new w5 25 #[.slice Am5 ne cm5, .slice Ah5 nh ch5]
      have HBA := Lib.hid (HB5.out.alloc hz5 (.cells #[.slice Am5 ne cm5, .slice Ah5 nh ch5] 25))
      have HBMA := Lib.hid (show Blk (w5.alloc (.cells #[.slice Am5 ne cm5, .slice Ah5 nh ch5] 25)) (w.heap.size + 1) 61 #[.int .i64 mf, .int .i64 mt, .int .i64 mg] from by
        have h1 := HBM1.out.below HB4.out HBM1.out.lt
        exact h1.below HBA.out h1.lt)
      have HBXA := Lib.hid (show Blk (w5.alloc (.cells #[.slice Am5 ne cm5, .slice Ah5 nh ch5] 25)) w.heap.size 25 #[.slice Ab nb cb, .slice Am nm cm] from by
        have h1 := HBX1.out.below HB4.out HBX1.out.lt
        exact h1.below HBA.out h1.lt)
      have HBKA := Lib.hid (HBK4.out.below HBA.out HBK4.out.lt)
      have HOMA := Lib.hid (HOM.out.alloc (.cells #[.slice Am5 ne cm5, .slice Ah5 nh ch5] 25))
      have HOBA := Lib.hid (HOB.out.alloc (.cells #[.slice Am5 ne cm5, .slice Ah5 nh ch5] 25))
      have hlm : ∀ g, Value.ownBlock (.slice Ah5 nh ch5) = some g → g < w5.heap.size := fun g hg => (HOM.out.lt g hg).2
      have hlb : ∀ g, Value.ownBlock (.slice Am5 ne cm5) = some g → g < w5.heap.size := fun g hg => (HOB.out.lt g hg).2
      obtain ⟨Hm, hHm⟩ : ∃ Hm, Hm = w5.heap.size := ⟨_, rfl⟩
      obtain ⟨WM, hWM⟩ : ∃ WM, w5.alloc (.cells #[.slice Am5 ne cm5, .slice Ah5 nh ch5] 25) = WM := ⟨_, rfl⟩
      have hWMz : WM.heap.size = Hm + 1 := by rw [← hWM, hHm]; simp
      rw [hWM] at hMo HBA HBMA HBXA HBKA HOMA HOBA ⊢
      rw [← hHm] at hMo hlm hlb ⊢
      have HMo := Lib.hid hMo
      have HLM := Lib.hid hlm
      have HLB := Lib.hid hlb
      have HOMN := Lib.hid (HOMA.out.alloc (.cells #[.int .i64 mf, .int .i64 mt, .int .i64 mg] 61))
      have HSN := Lib.hid (show Sl encM 3 (WM.alloc (.cells #[.int .i64 mf, .int .i64 mt, .int .i64 mg] 61)) WM.heap.size (some ⟨WM.heap.size, 0, none⟩) 1 [(⟨mf, mt, mg⟩ : Mv)] from Sl.new encM_len WM [(⟨mf, mt, mg⟩ : Mv)] 61 _ rfl)
      have c1 := hMo.cell 1
      have q0 := HBMA.out.cell 0
      have q1 := HBMA.out.cell 1
      have q2 := HBMA.out.cell 2
      have hz4w := HBA.out.size
      have HWZ := Lib.hid hWMz
      have HHM := Lib.hid hHm
      clear hMo hlm hlb hWM hWMz hHm
      go_upto_region 8 with (at_builtin; refine wpList_append_sl rfl _ _ 23 rfl w4.heap.size 61 i0 _ 24 Try.underlying23 hi iz0 iz1 iz2 rfl (by omega) encM_len _ nh _ rfl HOMN.out WM.heap.size _ 1 1 [(⟨mf, mt, mg⟩ : Mv)] rfl HSN.out oneMvN (by unfold maxLen; omega) (by omega) (by simp only [World.size_alloc]; omega) ?_; intro A6 c6 w6 hO6 hg6 hat6; have hMo6 := (HMo.out.alloc (.cells #[.int .i64 mf, .int .i64 mt, .int .i64 mg] 61)).grown hg6 (fun e => Nat.lt_irrefl _ (HLM.out _ e.symm)); have r1 := hMo6.cell 1; have s1 := hMo6.frozen 1; have HMo6 := Lib.hid hMo6; have HO6 := Lib.hid hO6; have HG6 := Lib.hid hg6; have HAT := Lib.hid hat6; clear hO6 hg6 hat6 hMo6)
      have HB47 := Lib.hid ((below_own HOMN.out HG6.out (HBA.out.alloc HBA.out.size (.cells #[.int .i64 mf, .int .i64 mt, .int .i64 mg] 61)) (Nat.le_refl _) (Nat.le_refl _)).setCell (p := ⟨Hm, 1, none⟩) (by show w4.heap.size ≤ Hm; have := HHM.out; omega) (.slice A6 (nh + 1) c6))
      have HX4 := Lib.hid (HBX1.out.below HB4.out HBX1.out.lt)
      have HMB7 := Lib.hid (HMo6.out.set_ 1 (.slice A6 (nh + 1) c6))
      have HXA := Lib.hid (show NArg.Ok ⟨b1, b2, b3, Ab, Am, Ao, nb, cb, nm, cm, no, co, bs, ms, l⟩ (w6.setCell ⟨Hm, 1, none⟩ (.slice A6 (nh + 1) c6)) from
        ⟨HM.out.old (HB4W.out.trans (HB47.out.mono HB4W.out.size)), HO.out.old (HB4W.out.trans (HB47.out.mono HB4W.out.size)), by have := HV.out; show nb ≤ 100; omega, by have := HV.out; show nm ≤ 100; omega, by show no ≤ 100; omega, hco⟩)
      have HYA := Lib.hid (show NArg.Ok ⟨e1, e2, b4, Ae, Ah, Ak, ne, ce, nh, ch, k.length, ck, es, hs, k⟩ (w6.setCell ⟨Hm, 1, none⟩ (.slice A6 (nh + 1) c6)) from
        ⟨HNM4.out.old HB47.out, HSK.out.old HB47.out, by show ne ≤ 100; omega, by show nh ≤ 100; omega, by show k.length ≤ 100; omega, hck⟩)
      obtain ⟨bB, hbB, hsB⟩ := Sl.of_own (enc := encI) encI_len HNB.out HOBA.out
      have hO6 := HO6.out
      rw [show hs.flatMap encM ++ [(⟨mf, mt, mg⟩ : Mv)].flatMap encM = (hs ++ [(⟨mf, mt, mg⟩ : Mv)]).flatMap encM from (List.flatMap_append ..).symm] at hO6
      obtain ⟨bQ, hbQ, hsQ⟩ := Sl.of_own (enc := encM) encM_len (by rw [List.length_append, HNH.out]; rfl) hO6
      have HZA := Lib.hid (show NArg.Ok ⟨bB, bQ, b4, Am5, A6, Ak, ne, cm5, nh + 1, c6, k.length, ck, es, hs ++ [(⟨mf, mt, mg⟩ : Mv)], k⟩ (w6.setCell ⟨Hm, 1, none⟩ (.slice A6 (nh + 1) c6)) from by
        refine ⟨⟨?_, ?_, own_capN HOB.out, own_capN hO6⟩, HSK.out.old HB47.out, by show ne ≤ 100; omega, by show nh + 1 ≤ 100; omega, by show k.length ≤ 100; omega, hck⟩
        · have hown : 0 < ne → Value.ownBlock (.slice Am5 ne cm5) = some bB := fun h => by obtain ⟨o, hA, _⟩ := hsB.2 h; rw [hA]; rfl
          exact ((hsB.alloc (.cells #[.int .i64 mf, .int .i64 mt, .int .i64 mg] 61)).grown HG6.out (fun h e => HNE5.out bB (hown h) e.symm)).setCell (fun h e => Nat.lt_irrefl _ (show Hm < Hm by have h1 := HLB.out bB (hown h); have e2 : bB = Hm := e; omega)) _
        · have hown : Value.ownBlock (.slice A6 (nh + 1) c6) = some bQ := by obtain ⟨o, hA, _⟩ := hsQ.2 (by omega); rw [hA]; rfl
          refine hsQ.setCell (fun _ e => ?_) _
          have e2 : bQ = Hm := e
          rcases HAT.out with h1 | h1
          · rw [hown] at h1
            have := HLM.out bQ h1.symm
            omega
          · rw [hown] at h1
            injection h1 with h1
            simp only [World.size_alloc] at h1
            have := HWZ.out
            omega)
      clear hsB hsQ hO6 hbB hbQ r1 s1 c1 q0 q1 q2
      have HX7 := Lib.hid (HX4.out.below HB47.out HX4.out.lt)
      have HK7 := Lib.hid (HBK4.out.below HB47.out HBK4.out.lt)
      have HW7 := Lib.hid (HB4W.out.trans (HB47.out.mono HB4W.out.size))
      obtain ⟨W7, hW7⟩ : ∃ W7, w6.setCell ⟨Hm, 1, none⟩ (.slice A6 (nh + 1) c6) = W7 := ⟨_, rfl⟩
      rw [hW7] at HMB7 HXA HYA HZA HX7 HK7 HW7 ⊢
      have x0 := HX7.out.cell 0
      have x1 := HX7.out.cell 1
      have y0 := HK7.out.cell 0
      have y1 := HK7.out.cell 1
      have z0 := HMB7.out.cell 0
      have z1 := HMB7.out.cell 1
      clear hW7
      go_wp2_with fail
      have hbX := (Blk.new W7 25 #[.slice Ab nb cb, .slice Am nm cm, .slice Ae ne ce, .slice Ah nh ch, .slice Am5 ne cm5, .slice A6 (nh + 1) c6, .slice Ae ne ce, .slice Ah nh ch]).alloc (.cells #[.slice Ao no co, .slice Ak k.length ck, .slice Ak k.length ck, .slice Ao no co] 22)
      have hbY := Blk.new (W7.alloc (.cells #[.slice Ab nb cb, .slice Am nm cm, .slice Ae ne ce, .slice Ah nh ch, .slice Am5 ne cm5, .slice A6 (nh + 1) c6, .slice Ae ne ce, .slice Ah nh ch] 25)) 22 #[.slice Ao no co, .slice Ak k.length ck, .slice Ak k.length ck, .slice Ao no co]
      rw [World.size_alloc] at hbY
      have HBL := Lib.hid (show Below W7.heap.size W7 ((W7.alloc (.cells #[.slice Ab nb cb, .slice Am nm cm, .slice Ae ne ce, .slice Ah nh ch, .slice Am5 ne cm5, .slice A6 (nh + 1) c6, .slice Ae ne ce, .slice Ah nh ch] 25)).alloc (.cells #[.slice Ao no co, .slice Ak k.length ck, .slice Ak k.length ck, .slice Ao no co] 22)) from by go_grown)
      obtain ⟨WL, hWL⟩ : ∃ WL, (W7.alloc (.cells #[.slice Ab nb cb, .slice Am nm cm, .slice Ae ne ce, .slice Ah nh ch, .slice Am5 ne cm5, .slice A6 (nh + 1) c6, .slice Ae ne ce, .slice Ah nh ch] 25)).alloc (.cells #[.slice Ao no co, .slice Ak k.length ck, .slice Ak k.length ck, .slice Ao no co] 22) = WL := ⟨_, rfl⟩
      rw [hWL] at hbX hbY HBL ⊢
      have HX0 := Lib.hid (HXA.out.old HBL.out)
      have HY0 := Lib.hid (HYA.out.old HBL.out)
      have HZ0 := Lib.hid (HZA.out.old HBL.out)
      have HSEL := Lib.hid (show ∀ i : Nat, i < 4 → ∃ x : NArg, ∀ W, Below WL.heap.size WL W → x.Ok W ∧ W.cell? ⟨W7.heap.size, i * 2, none⟩ = some (.slice x.Ab x.nb x.cb) ∧ W.cell? ⟨W7.heap.size, i * 2 + 1, none⟩ = some (.slice x.Am x.nm x.cm) ∧ W.cell? ⟨W7.heap.size + 1, i, none⟩ = some (.slice x.Ao x.no x.co) from by
        intro i hi
        match i, hi with
        | 0, _ => exact ⟨_, fun W hW => ⟨HX0.out.old hW, (hbX.below hW hbX.lt).cell 0, (hbX.below hW hbX.lt).cell 1, (hbY.below hW hbY.lt).cell 0⟩⟩
        | 1, _ => exact ⟨_, fun W hW => ⟨HY0.out.old hW, (hbX.below hW hbX.lt).cell 2, (hbX.below hW hbX.lt).cell 3, (hbY.below hW hbY.lt).cell 1⟩⟩
        | 2, _ => exact ⟨_, fun W hW => ⟨HZ0.out.old hW, (hbX.below hW hbX.lt).cell 4, (hbX.below hW hbX.lt).cell 5, (hbY.below hW hbY.lt).cell 2⟩⟩
        | 3, _ => exact ⟨⟨e1, e2, b3, Ae, Ah, Ao, ne, ce, nh, ch, no, co, es, hs, l⟩, fun W hW => ⟨⟨(HY0.out.old hW).m, (HX0.out.old hW).o, HY0.out.nb, HY0.out.nm, HX0.out.no, HX0.out.co⟩, (hbX.below hW hbX.lt).cell 6, (hbX.below hW hbX.lt).cell 7, (hbY.below hW hbY.lt).cell 3⟩⟩)
      have HWL := Lib.hid (HW7.out.trans (HBL.out.mono HW7.out.size))
      clear hbX hbY hWL x0 x1 y0 y1 z0 z1 HX0 HY0 HZ0
      obtain ⟨X, hX⟩ : ∃ X, X = W7.heap.size := ⟨_, rfl⟩
      rw [← hX] at HSEL ⊢
      clear hX
      go_loopw [15] (fun iv wr => ∃ i : Nat, i ≤ 4 ∧ iv = .int .i64 i ∧ Below WL.heap.size WL wr) (fun iv _ => 4 - (intOf iv).toNat)
      case atStart => exact ⟨0, by omega, rfl, Below.refl _ _⟩
      case round =>
        obtain ⟨i, hi4, rfl, hB⟩ := hrel
        have HBR := Lib.hid hB
        by_cases hlt : i < 4
        · obtain ⟨x, hx⟩ := HSEL.out i hlt
          have HXR := Lib.hid (fun (W : World) (hW : Below wr.heap.size wr W) => hx W (HBR.out.trans (hW.mono HBR.out.size)))
          obtain ⟨p1, p2, p3, Pb, Pm, Po, pn, pc, pm, pd, po, pe, ps, qs, os⟩ := x
          simp only at HXR
          obtain ⟨hok, k0, k1, k2⟩ := HXR.out wr (Below.refl _ wr)
          have HPN := Lib.hid hok.m.b.len
          have HPM := Lib.hid hok.m.m.len
          have hpn : pn ≤ 100 := hok.nb
          have hpm : pm ≤ 100 := hok.nm
          have hpo : po ≤ 100 := hok.no
          have HPO := Lib.hid hok.o.len
          clear hx hok hB
          have i0' : (0 : Int) ≤ (i : Int) := by omega
          have i1' : (i : Int) < 4 := by omega
          go_upto_region 12 with fail
          go_cut [16, 17] from 72 to 81 (fun u v wx => ∃ (Bo bb bm bo cc cd ci : Nat) (Ac Ad Ai : Option Addr), u = .pointer (some ⟨Bo, 0, none⟩) ∧ v = .slice Ai po ci ∧ NtB wr wx Bo #[.slice Ac pn cc, .slice Ad pm cd] ∧ NetM wx bb bm Ac Ad pn cc pm cd ps qs ∧ Sl encI 1 wx bo Ai po os ∧ po ≤ ci ∧ Below wr.heap.size wr wx)
          case first =>
            have hV : Below wr.heap.size wr wr.drew := (Below.refl _ wr).drew
            have HFC := Lib.hid (fun (W : World) (hW : Below wr.heap.size wr W) => (show W.cell? ⟨X, i * 2, none⟩ = some (.slice Pb pn pc) ∧ W.cell? ⟨X, i * 2 + 1, none⟩ = some (.slice Pm pm pd) ∧ W.cell? ⟨X + 1, i, none⟩ = some (.slice Po po pe) from (HXR.out W hW).2))
            clear k0 k1 k2
            refine wp_region_K2 [3, 8] [] (fun W => W.cell? ⟨X, i * 2, none⟩ = some (.slice Pb pn pc) ∧ W.cell? ⟨X, i * 2 + 1, none⟩ = some (.slice Pm pm pd) ∧ W.cell? ⟨X + 1, i, none⟩ = some (.slice Po po pe)) (fun _ => True) rfl (by kernel_rfl) (HFC.out _ hV) (trivial) (fun hF0 hG0 => ?_)
            (refine wpAnyK_takeL Keep2.refl (i := 0) (v := ?_) rfl (by kernel_rfl) (by kernel_rfl) (by kernel_rfl) (fun _ _ _ h => h) (by rfl) ?_ ?_; rotate_left 1; focus (intro w; go_simp; try with_reducible rfl))
            try simp only [Act.put, List.setIfInBounds_toArray, List.set_cons_zero, List.set_cons_succ]
            (refine wpAnyK_takeL Keep2.refl (i := 1) (v := ?_) rfl (by kernel_rfl) (by kernel_rfl) (by kernel_rfl) (fun _ _ _ h => h) (by rfl) ?_ ?_; rotate_left 1; focus (intro w; go_simp; try with_reducible rfl))
            try simp only [Act.put, List.setIfInBounds_toArray, List.set_cons_zero, List.set_cons_succ]
            (refine wpAnyK_takeL Keep2.refl (i := 2) (v := ?_) rfl (by kernel_rfl) (by kernel_rfl) (by kernel_rfl) (fun _ _ _ h => h) (by rfl) ?_ ?_; rotate_left 1; focus (intro w; go_simp; try with_reducible rfl))
            try simp only [Act.put, List.setIfInBounds_toArray, List.set_cons_zero, List.set_cons_succ]
            (refine wpAnyK_loadL Keep2.refl (i := 3) (v := ?_) rfl (Keep2.left (i := 3) (by rfl)) (by kernel_rfl) (by kernel_rfl) (by kernel_rfl) (fun _ _ _ h => h) hF0 (by rfl) ?_ ?_; rotate_left 1; focus (intro w hFw; (try dsimp only at hFw); go_split_ands; go_simp; try with_reducible rfl))
            try simp only [Act.put, List.setIfInBounds_toArray, List.set_cons_zero, List.set_cons_succ]
            (refine wpAnyK_takeL Keep2.refl (i := 5) (v := ?_) rfl (by kernel_rfl) (by kernel_rfl) (by kernel_rfl) (fun _ _ _ h => h) (by rfl) ?_ ?_; rotate_left 1; focus (intro w; go_simp; try with_reducible rfl))
            try simp only [Act.put, List.setIfInBounds_toArray, List.set_cons_zero, List.set_cons_succ]
            (refine wpAnyK_takeL Keep2.refl (i := 6) (v := ?_) rfl (by kernel_rfl) (by kernel_rfl) (by kernel_rfl) (fun _ _ _ h => h) (by rfl) ?_ ?_; rotate_left 1; focus (intro w; go_simp; try with_reducible rfl))
            try simp only [Act.put, List.setIfInBounds_toArray, List.set_cons_zero, List.set_cons_succ]
            (refine wpAnyK_takeL Keep2.refl (i := 7) (v := ?_) rfl (by kernel_rfl) (by kernel_rfl) (by kernel_rfl) (fun _ _ _ h => h) (by rfl) ?_ ?_; rotate_left 1; focus (intro w; go_simp; try with_reducible rfl))
            try simp only [Act.put, List.setIfInBounds_toArray, List.set_cons_zero, List.set_cons_succ]
            (refine wpAnyK_loadL Keep2.refl (i := 8) (v := ?_) rfl (Keep2.left (i := 8) (by rfl)) (by kernel_rfl) (by kernel_rfl) (by kernel_rfl) (fun _ _ _ h => h) hF0 (by rfl) ?_ ?_; rotate_left 1; focus (intro w hFw; (try dsimp only at hFw); go_split_ands; go_simp; try with_reducible rfl))
            try simp only [Act.put, List.setIfInBounds_toArray, List.set_cons_zero, List.set_cons_succ]
            refine wpAnyK_all (rs := [4, 10]) (by kernel_rfl) (by simp) ?_
            refine List.forall_mem_cons.2 ⟨?_, List.forall_mem_cons.2 ⟨?_, fun _ h => absurd h List.not_mem_nil⟩⟩
            · refine wpOp_of rfl (by rfl) (fun K hK => ?_)
              go_simp
              (refine (copyNet_any p1 p2 Pb Pm pn pc pm pd ps qs _ (HXR.out _ hV).1.m (by omega) (by omega)).mono ?_; rintro e w7 hcp; obtain ⟨Ac, Ad, cc, cd, bb, bm, rfl, hNM, hk1, hk2, hB7⟩ := hcp.open HPN.out HPM.out; (try have hNB : (0 < pn → bb ≠ B) ∧ (0 < pm → bm ≠ B) := ⟨fun _ => Ne.symm (Nat.ne_of_lt (Nat.lt_of_lt_of_le hA.1.lt hk1)), fun _ => Ne.symm (Nat.ne_of_lt (Nat.lt_of_lt_of_le hA.1.lt hk2))⟩); (try replace hA := hA.old hB7); replace hV := hV.trans (hB7.mono hV.size); clear hcp hk1 hk2 hB7)
              (refine hK _ _ ⟨⟨fun _ _ => HFC.out _ hV, fun h => absurd h (by decide)⟩, ?_⟩; clear hK K)
              (refine wpAnyK_with (F := fun W => W.cell? ⟨X, i * 2, none⟩ = some (.slice Pb pn pc) ∧ W.cell? ⟨X, i * 2 + 1, none⟩ = some (.slice Pm pm pd) ∧ W.cell? ⟨X + 1, i, none⟩ = some (.slice Po po pe)) (HFC.out _ hV) (fun hF1 => ?_); clear hF0)
              try simp only [Act.put, List.setIfInBounds_toArray, List.set_cons_zero, List.set_cons_succ]
              refine wpAnyK_all (rs := [9, 10]) (by kernel_rfl) (by simp) ?_
              refine List.forall_mem_cons.2 ⟨?_, List.forall_mem_cons.2 ⟨?_, fun _ h => absurd h List.not_mem_nil⟩⟩
              · refine wpOp_of rfl (by rfl) (fun K hK => ?_)
                go_simp
                (refine (copyInts_any p3 po pe Po os _ (HXR.out _ hV).1.o (by omega)).mono ?_; rintro e w8 ⟨Ai, ci, rfl, hown, hB8⟩; obtain ⟨bo, hk3, hSO⟩ := Sl.of_own (enc := encI) encI_len HPO.out hown; have hci := own_capN hown; (try have hSB : 0 < po → bo ≠ B := fun _ => Ne.symm (Nat.ne_of_lt (Nat.lt_of_lt_of_le hA.1.lt hk3))); (try replace hA := hA.old hB8); replace hNM := hNM.old hB8; replace hV := hV.trans (hB8.mono hV.size); clear hown hk3 hB8)
                (refine hK _ _ ⟨⟨fun _ _ => HFC.out _ hV, fun h => absurd h (by decide)⟩, ?_⟩; clear hK K)
                (refine wpAnyK_with (F := fun W => W.cell? ⟨X, i * 2, none⟩ = some (.slice Pb pn pc) ∧ W.cell? ⟨X, i * 2 + 1, none⟩ = some (.slice Pm pm pd) ∧ W.cell? ⟨X + 1, i, none⟩ = some (.slice Po po pe)) (HFC.out _ hV) (fun hF2 => ?_); clear hF1)
                try simp only [Act.put, List.setIfInBounds_toArray, List.set_cons_zero, List.set_cons_succ]
                refine wpAnyK_step (i := 10) rfl (by kernel_rfl) (by rfl) (fun K hK => ?_)
                go_simp
                (obtain ⟨B, hBe, hA⟩ := NtB.newE hV; (try have hNB : (0 < pn → bb ≠ B) ∧ (0 < pm → bm ≠ B) := (by rw [hBe]; exact ⟨fun h => Nat.ne_of_lt (hNM.b.lt h), fun h => Nat.ne_of_lt (hNM.m.lt h)⟩)); (try have hSB : 0 < po → bo ≠ B := (by rw [hBe]; exact fun h => Nat.ne_of_lt (hSO.lt h))); (try have hNM0 := hNM); (try have hSO0 := hSO); have hV0 := hV; (try replace hNM := hNM.allocN (.cells #[.slice none 0 0, .slice none 0 0] 25)); (try replace hSO := hSO.alloc (.cells #[.slice none 0 0, .slice none 0 0] 25)); replace hV := hV.alloc hV.size (.cells #[.slice none 0 0, .slice none 0 0] 25))
                (refine hK _ _ (⟨fun _ _ => HFC.out _ hV, fun h => absurd h (by decide)⟩) ?_; clear hK K)
                (refine wpAnyK_with (F := fun W => W.cell? ⟨X, i * 2, none⟩ = some (.slice Pb pn pc) ∧ W.cell? ⟨X, i * 2 + 1, none⟩ = some (.slice Pm pm pd) ∧ W.cell? ⟨X + 1, i, none⟩ = some (.slice Po po pe)) (HFC.out _ hV) (fun hF3 => ?_); clear hF2)
                try simp only [Act.put, List.setIfInBounds_toArray, List.set_cons_zero, List.set_cons_succ]
                refine wpAnyK_step (i := 11) rfl (by kernel_rfl) (by rfl) (fun K hK => ?_)
                go_simp
                (have f0 := hA.1.frozen 0; have f1 := hA.1.frozen 1; have c0 := hA.1.cell 0; have c1 := hA.1.cell 1; (try simp only [World.size_alloc, World.size_drew] at hBe); subst hBe; obtain ⟨hq1, hq2⟩ := hA.store (.slice Ac pn cc) (.slice Ad pm cd) hV; have hN1 := hNM.store2 hNB (.slice Ac pn cc) (.slice Ad pm cd); have hS1 := hSO.store2 hSB (.slice Ac pn cc) (.slice Ad pm cd); obtain ⟨hq3, hq4⟩ := NtB.last hV0 (.slice Ac pn cc) (.slice Ad pm cd); (try have hN3 := hNM0.allocN (.cells #[.slice Ac pn cc, .slice Ad pm cd] 25)); (try have hS3 := hSO0.alloc (.cells #[.slice Ac pn cc, .slice Ad pm cd] 25)); (try simp only [World.size_alloc, World.size_drew] at hq3); go_simp)
                (refine hK _ _ (⟨fun _ _ => (by first | with_reducible exact HFC.out _ hq2 | with_reducible exact HFC.out _ hq4), fun h => absurd h (by decide)⟩) ?_; clear hK K)
                (refine wpAnyK_with (F := fun W => W.cell? ⟨X, i * 2, none⟩ = some (.slice Pb pn pc) ∧ W.cell? ⟨X, i * 2 + 1, none⟩ = some (.slice Pm pm pd) ∧ W.cell? ⟨X + 1, i, none⟩ = some (.slice Po po pe)) ((by first | with_reducible exact HFC.out _ hq2 | with_reducible exact HFC.out _ hq4)) (fun hF4 => ?_); clear hF3)
                try simp only [Act.put, List.setIfInBounds_toArray, List.set_cons_zero, List.set_cons_succ]
                (refine wpAnyK_takeL Keep2.refl (i := 12) (v := ?_) rfl (by kernel_rfl) (by kernel_rfl) (by kernel_rfl) (fun _ _ _ h => h) (by rfl) ?_ ?_; rotate_left 1; focus (intro w; go_simp; try with_reducible rfl))
                try simp only [Act.put, List.setIfInBounds_toArray, List.set_cons_zero, List.set_cons_succ]
                refine wpAnyK_done (by kernel_rfl) ?_ _
                go_wp2_with fail
                go_meet
                refine ⟨_, bb, bm, bo, cc, cd, ci, Ac, Ad, Ai, rfl, rfl, ?_, ?_, ?_, hci, ?_⟩ <;> with_reducible assumption
              · refine wpOp_of rfl (by rfl) (fun K hK => ?_)
                go_simp
                (obtain ⟨B, hBe, hA⟩ := NtB.newE hV; (try have hNB : (0 < pn → bb ≠ B) ∧ (0 < pm → bm ≠ B) := (by rw [hBe]; exact ⟨fun h => Nat.ne_of_lt (hNM.b.lt h), fun h => Nat.ne_of_lt (hNM.m.lt h)⟩)); (try have hSB : 0 < po → bo ≠ B := (by rw [hBe]; exact fun h => Nat.ne_of_lt (hSO.lt h))); (try have hNM0 := hNM); (try have hSO0 := hSO); have hV0 := hV; (try replace hNM := hNM.allocN (.cells #[.slice none 0 0, .slice none 0 0] 25)); (try replace hSO := hSO.alloc (.cells #[.slice none 0 0, .slice none 0 0] 25)); replace hV := hV.alloc hV.size (.cells #[.slice none 0 0, .slice none 0 0] 25))
                (refine hK _ _ ⟨⟨fun _ _ => HFC.out _ hV, fun h => absurd h (by decide)⟩, ?_⟩; clear hK K)
                (refine wpAnyK_with (F := fun W => W.cell? ⟨X, i * 2, none⟩ = some (.slice Pb pn pc) ∧ W.cell? ⟨X, i * 2 + 1, none⟩ = some (.slice Pm pm pd) ∧ W.cell? ⟨X + 1, i, none⟩ = some (.slice Po po pe)) (HFC.out _ hV) (fun hF5 => ?_); clear hF1)
                try simp only [Act.put, List.setIfInBounds_toArray, List.set_cons_zero, List.set_cons_succ]
                refine wpAnyK_step (i := 9) rfl (by kernel_rfl) (by rfl) (fun K hK => ?_)
                go_simp
                (refine (copyInts_any p3 po pe Po os _ (HXR.out _ hV).1.o (by omega)).mono ?_; rintro e w8 ⟨Ai, ci, rfl, hown, hB8⟩; obtain ⟨bo, hk3, hSO⟩ := Sl.of_own (enc := encI) encI_len HPO.out hown; have hci := own_capN hown; (try have hSB : 0 < po → bo ≠ B := fun _ => Ne.symm (Nat.ne_of_lt (Nat.lt_of_lt_of_le hA.1.lt hk3))); (try replace hA := hA.old hB8); replace hNM := hNM.old hB8; replace hV := hV.trans (hB8.mono hV.size); clear hown hk3 hB8)
                (refine hK _ _ (⟨fun _ _ => HFC.out _ hV, fun h => absurd h (by decide)⟩) ?_; clear hK K)
                (refine wpAnyK_with (F := fun W => W.cell? ⟨X, i * 2, none⟩ = some (.slice Pb pn pc) ∧ W.cell? ⟨X, i * 2 + 1, none⟩ = some (.slice Pm pm pd) ∧ W.cell? ⟨X + 1, i, none⟩ = some (.slice Po po pe)) (HFC.out _ hV) (fun hF6 => ?_); clear hF5)
                try simp only [Act.put, List.setIfInBounds_toArray, List.set_cons_zero, List.set_cons_succ]
                refine wpAnyK_step (i := 11) rfl (by kernel_rfl) (by rfl) (fun K hK => ?_)
                go_simp
                (have f0 := hA.1.frozen 0; have f1 := hA.1.frozen 1; have c0 := hA.1.cell 0; have c1 := hA.1.cell 1; (try simp only [World.size_alloc, World.size_drew] at hBe); subst hBe; obtain ⟨hq1, hq2⟩ := hA.store (.slice Ac pn cc) (.slice Ad pm cd) hV; have hN1 := hNM.store2 hNB (.slice Ac pn cc) (.slice Ad pm cd); have hS1 := hSO.store2 hSB (.slice Ac pn cc) (.slice Ad pm cd); obtain ⟨hq3, hq4⟩ := NtB.last hV0 (.slice Ac pn cc) (.slice Ad pm cd); (try have hN3 := hNM0.allocN (.cells #[.slice Ac pn cc, .slice Ad pm cd] 25)); (try have hS3 := hSO0.alloc (.cells #[.slice Ac pn cc, .slice Ad pm cd] 25)); (try simp only [World.size_alloc, World.size_drew] at hq3); go_simp)
                (refine hK _ _ (⟨fun _ _ => (by first | with_reducible exact HFC.out _ hq2 | with_reducible exact HFC.out _ hq4), fun h => absurd h (by decide)⟩) ?_; clear hK K)
                (refine wpAnyK_with (F := fun W => W.cell? ⟨X, i * 2, none⟩ = some (.slice Pb pn pc) ∧ W.cell? ⟨X, i * 2 + 1, none⟩ = some (.slice Pm pm pd) ∧ W.cell? ⟨X + 1, i, none⟩ = some (.slice Po po pe)) ((by first | with_reducible exact HFC.out _ hq2 | with_reducible exact HFC.out _ hq4)) (fun hF7 => ?_); clear hF6)
                try simp only [Act.put, List.setIfInBounds_toArray, List.set_cons_zero, List.set_cons_succ]
                (refine wpAnyK_takeL Keep2.refl (i := 12) (v := ?_) rfl (by kernel_rfl) (by kernel_rfl) (by kernel_rfl) (fun _ _ _ h => h) (by rfl) ?_ ?_; rotate_left 1; focus (intro w; go_simp; try with_reducible rfl))
                try simp only [Act.put, List.setIfInBounds_toArray, List.set_cons_zero, List.set_cons_succ]
                refine wpAnyK_done (by kernel_rfl) ?_ _
                go_wp2_with fail
                go_meet
                refine ⟨_, bb, bm, bo, cc, cd, ci, Ac, Ad, Ai, rfl, rfl, ?_, ?_, ?_, hci, ?_⟩ <;> with_reducible assumption
            · refine wpOp_of rfl (by rfl) (fun K hK => ?_)
              go_simp
              (obtain ⟨B, hBe, hA⟩ := NtB.newE hV; (try have hNB : (0 < pn → bb ≠ B) ∧ (0 < pm → bm ≠ B) := (by rw [hBe]; exact ⟨fun h => Nat.ne_of_lt (hNM.b.lt h), fun h => Nat.ne_of_lt (hNM.m.lt h)⟩)); (try have hSB : 0 < po → bo ≠ B := (by rw [hBe]; exact fun h => Nat.ne_of_lt (hSO.lt h))); (try have hNM0 := hNM); (try have hSO0 := hSO); have hV0 := hV; (try replace hNM := hNM.allocN (.cells #[.slice none 0 0, .slice none 0 0] 25)); (try replace hSO := hSO.alloc (.cells #[.slice none 0 0, .slice none 0 0] 25)); replace hV := hV.alloc hV.size (.cells #[.slice none 0 0, .slice none 0 0] 25))
              (refine hK _ _ ⟨⟨fun _ _ => HFC.out _ hV, fun h => absurd h (by decide)⟩, ?_⟩; clear hK K)
              (refine wpAnyK_with (F := fun W => W.cell? ⟨X, i * 2, none⟩ = some (.slice Pb pn pc) ∧ W.cell? ⟨X, i * 2 + 1, none⟩ = some (.slice Pm pm pd) ∧ W.cell? ⟨X + 1, i, none⟩ = some (.slice Po po pe)) (HFC.out _ hV) (fun hF8 => ?_); clear hF0)
              try simp only [Act.put, List.setIfInBounds_toArray, List.set_cons_zero, List.set_cons_succ]
              refine wpAnyK_step (i := 4) rfl (by kernel_rfl) (by rfl) (fun K hK => ?_)
              go_simp
              (refine (copyNet_any p1 p2 Pb Pm pn pc pm pd ps qs _ (HXR.out _ hV).1.m (by omega) (by omega)).mono ?_; rintro e w7 hcp; obtain ⟨Ac, Ad, cc, cd, bb, bm, rfl, hNM, hk1, hk2, hB7⟩ := hcp.open HPN.out HPM.out; (try have hNB : (0 < pn → bb ≠ B) ∧ (0 < pm → bm ≠ B) := ⟨fun _ => Ne.symm (Nat.ne_of_lt (Nat.lt_of_lt_of_le hA.1.lt hk1)), fun _ => Ne.symm (Nat.ne_of_lt (Nat.lt_of_lt_of_le hA.1.lt hk2))⟩); (try replace hA := hA.old hB7); replace hV := hV.trans (hB7.mono hV.size); clear hcp hk1 hk2 hB7)
              (refine hK _ _ (⟨fun _ _ => HFC.out _ hV, fun h => absurd h (by decide)⟩) ?_; clear hK K)
              (refine wpAnyK_with (F := fun W => W.cell? ⟨X, i * 2, none⟩ = some (.slice Pb pn pc) ∧ W.cell? ⟨X, i * 2 + 1, none⟩ = some (.slice Pm pm pd) ∧ W.cell? ⟨X + 1, i, none⟩ = some (.slice Po po pe)) (HFC.out _ hV) (fun hF9 => ?_); clear hF8)
              try simp only [Act.put, List.setIfInBounds_toArray, List.set_cons_zero, List.set_cons_succ]
              refine wpAnyK_step (i := 9) rfl (by kernel_rfl) (by rfl) (fun K hK => ?_)
              go_simp
              (refine (copyInts_any p3 po pe Po os _ (HXR.out _ hV).1.o (by omega)).mono ?_; rintro e w8 ⟨Ai, ci, rfl, hown, hB8⟩; obtain ⟨bo, hk3, hSO⟩ := Sl.of_own (enc := encI) encI_len HPO.out hown; have hci := own_capN hown; (try have hSB : 0 < po → bo ≠ B := fun _ => Ne.symm (Nat.ne_of_lt (Nat.lt_of_lt_of_le hA.1.lt hk3))); (try replace hA := hA.old hB8); replace hNM := hNM.old hB8; replace hV := hV.trans (hB8.mono hV.size); clear hown hk3 hB8)
              (refine hK _ _ (⟨fun _ _ => HFC.out _ hV, fun h => absurd h (by decide)⟩) ?_; clear hK K)
              (refine wpAnyK_with (F := fun W => W.cell? ⟨X, i * 2, none⟩ = some (.slice Pb pn pc) ∧ W.cell? ⟨X, i * 2 + 1, none⟩ = some (.slice Pm pm pd) ∧ W.cell? ⟨X + 1, i, none⟩ = some (.slice Po po pe)) (HFC.out _ hV) (fun hF10 => ?_); clear hF9)
              try simp only [Act.put, List.setIfInBounds_toArray, List.set_cons_zero, List.set_cons_succ]
              refine wpAnyK_step (i := 11) rfl (by kernel_rfl) (by rfl) (fun K hK => ?_)
              go_simp
              (have f0 := hA.1.frozen 0; have f1 := hA.1.frozen 1; have c0 := hA.1.cell 0; have c1 := hA.1.cell 1; (try simp only [World.size_alloc, World.size_drew] at hBe); subst hBe; obtain ⟨hq1, hq2⟩ := hA.store (.slice Ac pn cc) (.slice Ad pm cd) hV; have hN1 := hNM.store2 hNB (.slice Ac pn cc) (.slice Ad pm cd); have hS1 := hSO.store2 hSB (.slice Ac pn cc) (.slice Ad pm cd); obtain ⟨hq3, hq4⟩ := NtB.last hV0 (.slice Ac pn cc) (.slice Ad pm cd); (try have hN3 := hNM0.allocN (.cells #[.slice Ac pn cc, .slice Ad pm cd] 25)); (try have hS3 := hSO0.alloc (.cells #[.slice Ac pn cc, .slice Ad pm cd] 25)); (try simp only [World.size_alloc, World.size_drew] at hq3); go_simp)
              (refine hK _ _ (⟨fun _ _ => (by first | with_reducible exact HFC.out _ hq2 | with_reducible exact HFC.out _ hq4), fun h => absurd h (by decide)⟩) ?_; clear hK K)
              (refine wpAnyK_with (F := fun W => W.cell? ⟨X, i * 2, none⟩ = some (.slice Pb pn pc) ∧ W.cell? ⟨X, i * 2 + 1, none⟩ = some (.slice Pm pm pd) ∧ W.cell? ⟨X + 1, i, none⟩ = some (.slice Po po pe)) ((by first | with_reducible exact HFC.out _ hq2 | with_reducible exact HFC.out _ hq4)) (fun hF11 => ?_); clear hF10)
              try simp only [Act.put, List.setIfInBounds_toArray, List.set_cons_zero, List.set_cons_succ]
              (refine wpAnyK_takeL Keep2.refl (i := 12) (v := ?_) rfl (by kernel_rfl) (by kernel_rfl) (by kernel_rfl) (fun _ _ _ h => h) (by rfl) ?_ ?_; rotate_left 1; focus (intro w; go_simp; try with_reducible rfl))
              try simp only [Act.put, List.setIfInBounds_toArray, List.set_cons_zero, List.set_cons_succ]
              refine wpAnyK_done (by kernel_rfl) ?_ _
              go_wp2_with fail
              go_meet
              refine ⟨_, bb, bm, bo, cc, cd, ci, Ac, Ad, Ai, rfl, rfl, ?_, ?_, ?_, hci, ?_⟩ <;> with_reducible assumption
          case rest =>
            obtain ⟨Bo, bb, bm, bo, cc, cd, ci, Ac, Ad, Ai, rfl, rfl, hNt, hNM, hSO, hci, hVc⟩ := hcut
            obtain ⟨wo, rfl⟩ : ∃ wo : World, wo = wc := ⟨_, rfl⟩
            have HNt := Lib.hid hNt.1
            have HVC := Lib.hid hVc
            have HNM := Lib.hid hNM
            have HSO := Lib.hid hSO
            have HCL := Lib.hid (fun (W : World) (hW : Below wo.heap.size wo W) => (show (W.cell? ⟨Bo, 0, none⟩ = some (.slice Ac pn cc) ∧ W.cell? ⟨Bo, 1, none⟩ = some (.slice Ad pm cd)) ∧ (W.cell? ⟨X, i * 2, none⟩ = some (.slice Pb pn pc) ∧ W.cell? ⟨X, i * 2 + 1, none⟩ = some (.slice Pm pm pd) ∧ W.cell? ⟨X + 1, i, none⟩ = some (.slice Po po pe)) from
              ⟨⟨(HNt.out.below hW HNt.out.lt).cell 0, (HNt.out.below hW HNt.out.lt).cell 1⟩, (HXR.out W (HVC.out.trans (hW.mono HVC.out.size))).2⟩))
            have HXO := Lib.hid (fun (W : World) (hW : Below wo.heap.size wo W) => (HXR.out W (HVC.out.trans (hW.mono HVC.out.size))).1)
            have HC1 := Lib.hid (fun (W : World) (hW : Below wo.heap.size wo W) => holdsU (w := W) (HNM.out.old hW) (by omega) (by omega))
            have HC2 := Lib.hid (fun (W : World) (hW : Below wo.heap.size wo W) => qholdsU (w := W) (HXO.out W hW).m (by show pn ≤ _; omega) (by show pm ≤ _; omega))
            have HC3 := Lib.hid (fun (W : World) (hW : Below wo.heap.size wo W) => reachU (w := W) (co := ci) (HNM.out.old hW) (by omega) (by omega) (HSO.out.old hW) (by omega))
            have HC4 := Lib.hid (fun (W : World) (hW : Below wo.heap.size wo W) => qreachU (w := W) (co := pe) (HXO.out W hW).m (by show pn ≤ _; omega) (by show pm ≤ _; omega) (HXO.out W hW).o (by show po ≤ _; omega))
            have HC5 := Lib.hid (fun (W : World) (hW : Below wo.heap.size wo W) => throughU (w := W) (co := ci) (HNM.out.old hW) (by omega) (by omega) (HSO.out.old hW) (by omega))
            have HC6 := Lib.hid (fun (W : World) (hW : Below wo.heap.size wo W) => qthroughU (w := W) (co := pe) (HXO.out W hW).m (by show pn ≤ _; omega) (by show pm ≤ _; omega) (HXO.out W hW).o (by show po ≤ _; omega))
            have HC7 := Lib.hid (fun (W : World) (hW : Below wo.heap.size wo W) => check_any bb bm Ac Ad pn cc pm cd ps qs W (HNM.out.old hW) (by omega) (by omega))
            have HC8 := Lib.hid (fun (W : World) (hW : Below wo.heap.size wo W) => qcheck_any p1 p2 Pb Pm pn pc pm pd ps qs W (HXO.out W hW).m (by omega) (by omega))
            clear hNt hVc hNM hSO k0 k1 k2
            generalize hck : chkNet ps qs = ck at HC1 HC2 HC7 HC8
            generalize hco9 : chkO ps qs os = cq at HC3 HC4 HC5 HC6
            clear hck hco9
            obtain ⟨⟨d0, d1⟩, k0, k1, k2⟩ := HCL.out wo (Below.refl _ _)
            go_upto_region 14 with (go_at_call 36; refine (HC1.out _ (Below.refl _ _)).mono ?_; rintro e v1 ⟨A1, n1, c1, r1, rfl, hs1, hn1, hb1⟩; have HS1 := Lib.hid hs1; have HB1 := Lib.hid hb1; clear hs1 hb1)
            clear d0 d1 k0 k1 k2
            obtain ⟨⟨d0, d1⟩, k0, k1, k2⟩ := HCL.out v1 HB1.out
            go_upto_region 15 with (go_at_call 44; refine (HC2.out _ HB1.out).mono ?_; rintro e v2 ⟨A2, n2, c2, r2, rfl, hs2, hn2, hb2⟩; have HS2 := Lib.hid hs2; have HT1 := Lib.hid (HS1.out.old hb2); have HB2 := Lib.hid (HB1.out.trans (hb2.mono HB1.out.size)); clear hs2 hb2)
            clear d0 d1 k0 k1 k2
            obtain ⟨⟨d0, d1⟩, k0, k1, k2⟩ := HCL.out v2 HB2.out
            go_upto_region 16 with (go_at_call 26; refine (HC3.out _ HB2.out).mono ?_; rintro e v3 ⟨A3, n3, c3, r3, rfl, hs3, hn3, hb3⟩; have HS3 := Lib.hid hs3; have HT2 := Lib.hid (And.intro (HT1.out.old hb3) (HS2.out.old hb3)); have HB3' := Lib.hid (HB2.out.trans (hb3.mono HB2.out.size)); clear hs3 hb3)
            clear d0 d1 k0 k1 k2
            have hM : Below wo.heap.size wo v3.drew := HB3'.out.drew
            refine wp_region_PL [3, 7] (fun W => (W.cell? ⟨Bo, 0, none⟩ = some (.slice Ac pn cc) ∧ W.cell? ⟨Bo, 1, none⟩ = some (.slice Ad pm cd)) ∧ (W.cell? ⟨X, i * 2, none⟩ = some (.slice Pb pn pc) ∧ W.cell? ⟨X, i * 2 + 1, none⟩ = some (.slice Pm pm pd) ∧ W.cell? ⟨X + 1, i, none⟩ = some (.slice Po po pe))) rfl (by kernel_rfl) (HCL.out _ hM) (fun hF0 => ?_)
            (refine wpAnyP_takeL (i := 0) (v := ?_) rfl (by kernel_rfl) (by kernel_rfl) (by kernel_rfl) (fun _ _ _ h => h) (by rfl) ?_ ?_; rotate_left 1; focus (intro w; go_simp; try with_reducible rfl))
            try simp only [Act.put, List.setIfInBounds_toArray, List.set_cons_zero, List.set_cons_succ]
            (refine wpAnyP_takeL (i := 1) (v := ?_) rfl (by kernel_rfl) (by kernel_rfl) (by kernel_rfl) (fun _ _ _ h => h) (by rfl) ?_ ?_; rotate_left 1; focus (intro w; go_simp; try with_reducible rfl))
            try simp only [Act.put, List.setIfInBounds_toArray, List.set_cons_zero, List.set_cons_succ]
            (refine wpAnyP_takeL (i := 2) (v := ?_) rfl (by kernel_rfl) (by kernel_rfl) (by kernel_rfl) (fun _ _ _ h => h) (by rfl) ?_ ?_; rotate_left 1; focus (intro w; go_simp; try with_reducible rfl))
            try simp only [Act.put, List.setIfInBounds_toArray, List.set_cons_zero, List.set_cons_succ]
            (refine wpAnyP_loadL (i := 3) (v := ?_) rfl (by kernel_rfl) (by kernel_rfl) (by kernel_rfl) (by rfl) (fun _ _ _ h => h) hF0 (by rfl) ?_ ?_; rotate_left 1; focus (intro w hFw; (try dsimp only at hFw); go_split_ands; go_simp; try with_reducible rfl))
            try simp only [Act.put, List.setIfInBounds_toArray, List.set_cons_zero, List.set_cons_succ]
            (refine wpAnyP_takeL (i := 4) (v := ?_) rfl (by kernel_rfl) (by kernel_rfl) (by kernel_rfl) (fun _ _ _ h => h) (by rfl) ?_ ?_; rotate_left 1; focus (intro w; go_simp; try with_reducible rfl))
            try simp only [Act.put, List.setIfInBounds_toArray, List.set_cons_zero, List.set_cons_succ]
            (refine wpAnyP_takeL (i := 5) (v := ?_) rfl (by kernel_rfl) (by kernel_rfl) (by kernel_rfl) (fun _ _ _ h => h) (by rfl) ?_ ?_; rotate_left 1; focus (intro w; go_simp; try with_reducible rfl))
            try simp only [Act.put, List.setIfInBounds_toArray, List.set_cons_zero, List.set_cons_succ]
            (refine wpAnyP_takeL (i := 6) (v := ?_) rfl (by kernel_rfl) (by kernel_rfl) (by kernel_rfl) (fun _ _ _ h => h) (by rfl) ?_ ?_; rotate_left 1; focus (intro w; go_simp; try with_reducible rfl))
            try simp only [Act.put, List.setIfInBounds_toArray, List.set_cons_zero, List.set_cons_succ]
            (refine wpAnyP_loadL (i := 7) (v := ?_) rfl (by kernel_rfl) (by kernel_rfl) (by kernel_rfl) (by rfl) (fun _ _ _ h => h) hF0 (by rfl) ?_ ?_; rotate_left 1; focus (intro w hFw; (try dsimp only at hFw); go_split_ands; go_simp; try with_reducible rfl))
            try simp only [Act.put, List.setIfInBounds_toArray, List.set_cons_zero, List.set_cons_succ]
            refine wpAnyP_last (i := 8) rfl (by kernel_rfl) (by kernel_rfl) (by rfl) (fun K hK => ?_)
            go_simp
            (refine (HC4.out _ hM).mono ?_; rintro e v4 ⟨A4, n4, c4, r4, rfl, hs4, hn4, hb4⟩)
            (refine hK _ _ ?_; clear hK K)
            try simp only [Act.put, List.setIfInBounds_toArray, List.set_cons_zero, List.set_cons_succ]
            (refine wpAnyP_takeL (i := 9) (v := ?_) rfl (by kernel_rfl) (by kernel_rfl) (by kernel_rfl) (fun _ _ _ h => h) (by rfl) ?_ ?_; rotate_left 1; focus (intro w; go_simp; try with_reducible rfl))
            try simp only [Act.put, List.setIfInBounds_toArray, List.set_cons_zero, List.set_cons_succ]
            (refine wpAnyP_takeL (i := 10) (v := ?_) rfl (by kernel_rfl) (by kernel_rfl) (by kernel_rfl) (fun _ _ _ h => h) (by rfl) ?_ ?_; rotate_left 1; focus (intro w; go_simp; try with_reducible rfl))
            try simp only [Act.put, List.setIfInBounds_toArray, List.set_cons_zero, List.set_cons_succ]
            (refine wpAnyP_takeL (i := 11) (v := ?_) rfl (by kernel_rfl) (by kernel_rfl) (by kernel_rfl) (fun _ _ _ h => h) (by rfl) ?_ ?_; rotate_left 1; focus (intro w; go_simp; try with_reducible rfl))
            try simp only [Act.put, List.setIfInBounds_toArray, List.set_cons_zero, List.set_cons_succ]
            (refine wpAnyP_takeL (i := 12) (v := ?_) rfl (by kernel_rfl) (by kernel_rfl) (by kernel_rfl) (fun _ _ _ h => h) (by rfl) ?_ ?_; rotate_left 1; focus (intro w; go_simp; try with_reducible rfl))
            try simp only [Act.put, List.setIfInBounds_toArray, List.set_cons_zero, List.set_cons_succ]
            (refine wpAnyP_takeL (i := 13) (v := ?_) rfl (by kernel_rfl) (by kernel_rfl) (by kernel_rfl) (fun _ _ _ h => h) (by rfl) ?_ ?_; rotate_left 1; focus (intro w; go_simp; try with_reducible rfl))
            try simp only [Act.put, List.setIfInBounds_toArray, List.set_cons_zero, List.set_cons_succ]
            refine wpAnyP_done (by kernel_rfl) ?_ _
            have hb4 := ((Below.refl v3.heap.size v3).drew).trans hb4
            have HS4 := Lib.hid hs4
            have HT3 := Lib.hid (And.intro (HT2.out.1.old hb4) (And.intro (HT2.out.2.old hb4) (HS3.out.old hb4)))
            have HB4' := Lib.hid (HB3'.out.trans (hb4.mono HB3'.out.size))
            clear hs4 hb4 hM
            obtain ⟨⟨d0, d1⟩, k0, k1, k2⟩ := HCL.out v4 HB4'.out
            go_upto_region 18 with (go_at_call 31; refine (HC5.out _ HB4'.out).mono ?_; rintro e v5 ⟨A5, n5, c5, r5, rfl, hs5, hn5, hb5⟩; have HS5 := Lib.hid hs5; have HT4 := Lib.hid (And.intro (HT3.out.1.old hb5) (And.intro (HT3.out.2.1.old hb5) (And.intro (HT3.out.2.2.old hb5) (HS4.out.old hb5)))); have HB5' := Lib.hid (HB4'.out.trans (hb5.mono HB4'.out.size)); clear hs5 hb5)
            clear d0 d1 k0 k1 k2
            have hM : Below wo.heap.size wo v5.drew := HB5'.out.drew
            refine wp_region_PL [3, 7] (fun W => (W.cell? ⟨Bo, 0, none⟩ = some (.slice Ac pn cc) ∧ W.cell? ⟨Bo, 1, none⟩ = some (.slice Ad pm cd)) ∧ (W.cell? ⟨X, i * 2, none⟩ = some (.slice Pb pn pc) ∧ W.cell? ⟨X, i * 2 + 1, none⟩ = some (.slice Pm pm pd) ∧ W.cell? ⟨X + 1, i, none⟩ = some (.slice Po po pe))) rfl (by kernel_rfl) (HCL.out _ hM) (fun hF0 => ?_)
            (refine wpAnyP_takeL (i := 0) (v := ?_) rfl (by kernel_rfl) (by kernel_rfl) (by kernel_rfl) (fun _ _ _ h => h) (by rfl) ?_ ?_; rotate_left 1; focus (intro w; go_simp; try with_reducible rfl))
            try simp only [Act.put, List.setIfInBounds_toArray, List.set_cons_zero, List.set_cons_succ]
            (refine wpAnyP_takeL (i := 1) (v := ?_) rfl (by kernel_rfl) (by kernel_rfl) (by kernel_rfl) (fun _ _ _ h => h) (by rfl) ?_ ?_; rotate_left 1; focus (intro w; go_simp; try with_reducible rfl))
            try simp only [Act.put, List.setIfInBounds_toArray, List.set_cons_zero, List.set_cons_succ]
            (refine wpAnyP_takeL (i := 2) (v := ?_) rfl (by kernel_rfl) (by kernel_rfl) (by kernel_rfl) (fun _ _ _ h => h) (by rfl) ?_ ?_; rotate_left 1; focus (intro w; go_simp; try with_reducible rfl))
            try simp only [Act.put, List.setIfInBounds_toArray, List.set_cons_zero, List.set_cons_succ]
            (refine wpAnyP_loadL (i := 3) (v := ?_) rfl (by kernel_rfl) (by kernel_rfl) (by kernel_rfl) (by rfl) (fun _ _ _ h => h) hF0 (by rfl) ?_ ?_; rotate_left 1; focus (intro w hFw; (try dsimp only at hFw); go_split_ands; go_simp; try with_reducible rfl))
            try simp only [Act.put, List.setIfInBounds_toArray, List.set_cons_zero, List.set_cons_succ]
            (refine wpAnyP_takeL (i := 4) (v := ?_) rfl (by kernel_rfl) (by kernel_rfl) (by kernel_rfl) (fun _ _ _ h => h) (by rfl) ?_ ?_; rotate_left 1; focus (intro w; go_simp; try with_reducible rfl))
            try simp only [Act.put, List.setIfInBounds_toArray, List.set_cons_zero, List.set_cons_succ]
            (refine wpAnyP_takeL (i := 5) (v := ?_) rfl (by kernel_rfl) (by kernel_rfl) (by kernel_rfl) (fun _ _ _ h => h) (by rfl) ?_ ?_; rotate_left 1; focus (intro w; go_simp; try with_reducible rfl))
            try simp only [Act.put, List.setIfInBounds_toArray, List.set_cons_zero, List.set_cons_succ]
            (refine wpAnyP_takeL (i := 6) (v := ?_) rfl (by kernel_rfl) (by kernel_rfl) (by kernel_rfl) (fun _ _ _ h => h) (by rfl) ?_ ?_; rotate_left 1; focus (intro w; go_simp; try with_reducible rfl))
            try simp only [Act.put, List.setIfInBounds_toArray, List.set_cons_zero, List.set_cons_succ]
            (refine wpAnyP_loadL (i := 7) (v := ?_) rfl (by kernel_rfl) (by kernel_rfl) (by kernel_rfl) (by rfl) (fun _ _ _ h => h) hF0 (by rfl) ?_ ?_; rotate_left 1; focus (intro w hFw; (try dsimp only at hFw); go_split_ands; go_simp; try with_reducible rfl))
            try simp only [Act.put, List.setIfInBounds_toArray, List.set_cons_zero, List.set_cons_succ]
            refine wpAnyP_last (i := 8) rfl (by kernel_rfl) (by kernel_rfl) (by rfl) (fun K hK => ?_)
            go_simp
            (refine (HC6.out _ hM).mono ?_; rintro e v6 ⟨A7, n6, c7, r6, rfl, hs6, hn6, hb6⟩)
            (refine hK _ _ ?_; clear hK K)
            try simp only [Act.put, List.setIfInBounds_toArray, List.set_cons_zero, List.set_cons_succ]
            (refine wpAnyP_takeL (i := 9) (v := ?_) rfl (by kernel_rfl) (by kernel_rfl) (by kernel_rfl) (fun _ _ _ h => h) (by rfl) ?_ ?_; rotate_left 1; focus (intro w; go_simp; try with_reducible rfl))
            try simp only [Act.put, List.setIfInBounds_toArray, List.set_cons_zero, List.set_cons_succ]
            (refine wpAnyP_takeL (i := 10) (v := ?_) rfl (by kernel_rfl) (by kernel_rfl) (by kernel_rfl) (fun _ _ _ h => h) (by rfl) ?_ ?_; rotate_left 1; focus (intro w; go_simp; try with_reducible rfl))
            try simp only [Act.put, List.setIfInBounds_toArray, List.set_cons_zero, List.set_cons_succ]
            (refine wpAnyP_takeL (i := 11) (v := ?_) rfl (by kernel_rfl) (by kernel_rfl) (by kernel_rfl) (fun _ _ _ h => h) (by rfl) ?_ ?_; rotate_left 1; focus (intro w; go_simp; try with_reducible rfl))
            try simp only [Act.put, List.setIfInBounds_toArray, List.set_cons_zero, List.set_cons_succ]
            (refine wpAnyP_takeL (i := 12) (v := ?_) rfl (by kernel_rfl) (by kernel_rfl) (by kernel_rfl) (fun _ _ _ h => h) (by rfl) ?_ ?_; rotate_left 1; focus (intro w; go_simp; try with_reducible rfl))
            try simp only [Act.put, List.setIfInBounds_toArray, List.set_cons_zero, List.set_cons_succ]
            (refine wpAnyP_takeL (i := 13) (v := ?_) rfl (by kernel_rfl) (by kernel_rfl) (by kernel_rfl) (fun _ _ _ h => h) (by rfl) ?_ ?_; rotate_left 1; focus (intro w; go_simp; try with_reducible rfl))
            try simp only [Act.put, List.setIfInBounds_toArray, List.set_cons_zero, List.set_cons_succ]
            refine wpAnyP_done (by kernel_rfl) ?_ _
            have hb6 := ((Below.refl v5.heap.size v5).drew).trans hb6
            have HT5 := Lib.hid (And.intro (And.intro (HT4.out.1.old hb6) (HT4.out.2.1.old hb6)) (And.intro (And.intro (HT4.out.2.2.1.old hb6) (HT4.out.2.2.2.old hb6)) (And.intro (HS5.out.old hb6) hs6)))
            have HB6' := Lib.hid (HB5'.out.trans (hb6.mono HB5'.out.size))
            clear hs6 hb6 hM
            go_upto_region 19 with fail
            have hM : Below wo.heap.size wo v6.drew := HB6'.out.drew
            have hV6 : Below v6.heap.size v6 v6.drew := (Below.refl _ v6).drew
            refine wp_region_PL [0, 5] (fun W => (W.cell? ⟨Bo, 0, none⟩ = some (.slice Ac pn cc) ∧ W.cell? ⟨Bo, 1, none⟩ = some (.slice Ad pm cd)) ∧ (W.cell? ⟨X, i * 2, none⟩ = some (.slice Pb pn pc) ∧ W.cell? ⟨X, i * 2 + 1, none⟩ = some (.slice Pm pm pd) ∧ W.cell? ⟨X + 1, i, none⟩ = some (.slice Po po pe))) rfl (by kernel_rfl) (HCL.out _ hM) (fun hF0 => ?_)
            (refine wpAnyP_loadL (i := 0) (v := ?_) rfl (by kernel_rfl) (by kernel_rfl) (by kernel_rfl) (by rfl) (fun _ _ _ h => h) hF0 (by rfl) ?_ ?_; rotate_left 1; focus (intro w hFw; (try dsimp only at hFw); go_split_ands; go_simp; try with_reducible rfl))
            try simp only [Act.put, List.setIfInBounds_toArray, List.set_cons_zero, List.set_cons_succ]
            (refine wpAnyP_takeL (i := 2) (v := ?_) rfl (by kernel_rfl) (by kernel_rfl) (by kernel_rfl) (fun _ _ _ h => h) (by rfl) ?_ ?_; rotate_left 1; focus (intro w; go_simp; try with_reducible rfl))
            try simp only [Act.put, List.setIfInBounds_toArray, List.set_cons_zero, List.set_cons_succ]
            (refine wpAnyP_takeL (i := 3) (v := ?_) rfl (by kernel_rfl) (by kernel_rfl) (by kernel_rfl) (fun _ _ _ h => h) (by rfl) ?_ ?_; rotate_left 1; focus (intro w; go_simp; try with_reducible rfl))
            try simp only [Act.put, List.setIfInBounds_toArray, List.set_cons_zero, List.set_cons_succ]
            (refine wpAnyP_takeL (i := 4) (v := ?_) rfl (by kernel_rfl) (by kernel_rfl) (by kernel_rfl) (fun _ _ _ h => h) (by rfl) ?_ ?_; rotate_left 1; focus (intro w; go_simp; try with_reducible rfl))
            try simp only [Act.put, List.setIfInBounds_toArray, List.set_cons_zero, List.set_cons_succ]
            (refine wpAnyP_loadL (i := 5) (v := ?_) rfl (by kernel_rfl) (by kernel_rfl) (by kernel_rfl) (by rfl) (fun _ _ _ h => h) hF0 (by rfl) ?_ ?_; rotate_left 1; focus (intro w hFw; (try dsimp only at hFw); go_split_ands; go_simp; try with_reducible rfl))
            try simp only [Act.put, List.setIfInBounds_toArray, List.set_cons_zero, List.set_cons_succ]
            refine wpAnyP_step (i := 1) rfl (by kernel_rfl) (by rfl) (fun K hK => ?_)
            go_simp
            (refine (HC7.out _ hM).mono ?_; rintro e v7 ⟨rfl, hb7⟩; have hM := hM.trans (hb7.mono hM.size); have hV6 := hV6.trans (hb7.mono hV6.size); clear hb7)
            (refine hK _ _ (HCL.out _ hM) (fun hF1 => ?_); clear hK K hF0)
            try simp only [Act.put, List.setIfInBounds_toArray, List.set_cons_zero, List.set_cons_succ]
            refine wpAnyP_step (i := 6) rfl (by kernel_rfl) (by rfl) (fun K hK => ?_)
            go_simp
            (refine (HC8.out _ hM).mono ?_; rintro e v8 ⟨rfl, hb8⟩; have hM := hM.trans (hb8.mono hM.size); have hV6 := hV6.trans (hb8.mono hV6.size); clear hb8)
            (refine hK _ _ (HCL.out _ hM) (fun hF2 => ?_); clear hK K hF1)
            try simp only [Act.put, List.setIfInBounds_toArray, List.set_cons_zero, List.set_cons_succ]
            (refine wpAnyP_takeL (i := 7) (v := ?_) rfl (by kernel_rfl) (by kernel_rfl) (by kernel_rfl) (fun _ _ _ h => h) (by rfl) ?_ ?_; rotate_left 1; focus (intro w; go_simp; try with_reducible rfl))
            try simp only [Act.put, List.setIfInBounds_toArray, List.set_cons_zero, List.set_cons_succ]
            (refine wpAnyP_takeL (i := 8) (v := ?_) rfl (by kernel_rfl) (by kernel_rfl) (by kernel_rfl) (fun _ _ _ h => h) (by rfl) ?_ ?_; rotate_left 1; focus (intro w; go_simp; try with_reducible rfl))
            try simp only [Act.put, List.setIfInBounds_toArray, List.set_cons_zero, List.set_cons_succ]
            (refine wpAnyP_takeL (i := 9) (v := ?_) rfl (by kernel_rfl) (by kernel_rfl) (by kernel_rfl) (fun _ _ _ h => h) (by rfl) ?_ ?_; rotate_left 1; focus (intro w; go_simp; try with_reducible rfl))
            try simp only [Act.put, List.setIfInBounds_toArray, List.set_cons_zero, List.set_cons_succ]
            (refine wpAnyP_takeL (i := 10) (v := ?_) rfl (by kernel_rfl) (by kernel_rfl) (by kernel_rfl) (fun _ _ _ h => h) (by rfl) ?_ ?_; rotate_left 1; focus (intro w; go_simp; try with_reducible rfl))
            try simp only [Act.put, List.setIfInBounds_toArray, List.set_cons_zero, List.set_cons_succ]
            (refine wpAnyP_takeL (i := 11) (v := ?_) rfl (by kernel_rfl) (by kernel_rfl) (by kernel_rfl) (fun _ _ _ h => h) (by rfl) ?_ ?_; rotate_left 1; focus (intro w; go_simp; try with_reducible rfl))
            try simp only [Act.put, List.setIfInBounds_toArray, List.set_cons_zero, List.set_cons_succ]
            (refine wpAnyP_takeL (i := 12) (v := ?_) rfl (by kernel_rfl) (by kernel_rfl) (by kernel_rfl) (fun _ _ _ h => h) (by rfl) ?_ ?_; rotate_left 1; focus (intro w; go_simp; try with_reducible rfl))
            try simp only [Act.put, List.setIfInBounds_toArray, List.set_cons_zero, List.set_cons_succ]
            (refine wpAnyP_takeL (i := 13) (v := ?_) rfl (by kernel_rfl) (by kernel_rfl) (by kernel_rfl) (fun _ _ _ h => h) (by rfl) ?_ ?_; rotate_left 1; focus (intro w; go_simp; try with_reducible rfl))
            try simp only [Act.put, List.setIfInBounds_toArray, List.set_cons_zero, List.set_cons_succ]
            (refine wpAnyP_takeL (i := 14) (v := ?_) rfl (by kernel_rfl) (by kernel_rfl) (by kernel_rfl) (fun _ _ _ h => h) (by rfl) ?_ ?_; rotate_left 1; focus (intro w; go_simp; try with_reducible rfl))
            try simp only [Act.put, List.setIfInBounds_toArray, List.set_cons_zero, List.set_cons_succ]
            (refine wpAnyP_takeL (i := 15) (v := ?_) rfl (by kernel_rfl) (by kernel_rfl) (by kernel_rfl) (fun _ _ _ h => h) (by rfl) ?_ ?_; rotate_left 1; focus (intro w; go_simp; try with_reducible rfl))
            try simp only [Act.put, List.setIfInBounds_toArray, List.set_cons_zero, List.set_cons_succ]
            (refine wpAnyP_takeL (i := 16) (v := ?_) rfl (by kernel_rfl) (by kernel_rfl) (by kernel_rfl) (fun _ _ _ h => h) (by rfl) ?_ ?_; rotate_left 1; focus (intro w; go_simp; try with_reducible rfl))
            try simp only [Act.put, List.setIfInBounds_toArray, List.set_cons_zero, List.set_cons_succ]
            (refine wpAnyP_takeL (i := 17) (v := ?_) rfl (by kernel_rfl) (by kernel_rfl) (by kernel_rfl) (fun _ _ _ h => h) (by rfl) ?_ ?_; rotate_left 1; focus (intro w; go_simp; try with_reducible rfl))
            try simp only [Act.put, List.setIfInBounds_toArray, List.set_cons_zero, List.set_cons_succ]
            (refine wpAnyP_takeL (i := 18) (v := ?_) rfl (by kernel_rfl) (by kernel_rfl) (by kernel_rfl) (fun _ _ _ h => h) (by rfl) ?_ ?_; rotate_left 1; focus (intro w; go_simp; try with_reducible rfl))
            try simp only [Act.put, List.setIfInBounds_toArray, List.set_cons_zero, List.set_cons_succ]
            (refine wpAnyP_takeL (i := 19) (v := ?_) rfl (by kernel_rfl) (by kernel_rfl) (by kernel_rfl) (fun _ _ _ h => h) (by rfl) ?_ ?_; rotate_left 1; focus (intro w; go_simp; try with_reducible rfl))
            try simp only [Act.put, List.setIfInBounds_toArray, List.set_cons_zero, List.set_cons_succ]
            (refine wpAnyP_takeL (i := 20) (v := ?_) rfl (by kernel_rfl) (by kernel_rfl) (by kernel_rfl) (fun _ _ _ h => h) (by rfl) ?_ ?_; rotate_left 1; focus (intro w; go_simp; try with_reducible rfl))
            try simp only [Act.put, List.setIfInBounds_toArray, List.set_cons_zero, List.set_cons_succ]
            (refine wpAnyP_takeL (i := 21) (v := ?_) rfl (by kernel_rfl) (by kernel_rfl) (by kernel_rfl) (fun _ _ _ h => h) (by rfl) ?_ ?_; rotate_left 1; focus (intro w; go_simp; try with_reducible rfl))
            try simp only [Act.put, List.setIfInBounds_toArray, List.set_cons_zero, List.set_cons_succ]
            (refine wpAnyP_takeL (i := 22) (v := ?_) rfl (by kernel_rfl) (by kernel_rfl) (by kernel_rfl) (fun _ _ _ h => h) (by rfl) ?_ ?_; rotate_left 1; focus (intro w; go_simp; try with_reducible rfl))
            try simp only [Act.put, List.setIfInBounds_toArray, List.set_cons_zero, List.set_cons_succ]
            (refine wpAnyP_takeL (i := 23) (v := ?_) rfl (by kernel_rfl) (by kernel_rfl) (by kernel_rfl) (fun _ _ _ h => h) (by rfl) ?_ ?_; rotate_left 1; focus (intro w; go_simp; try with_reducible rfl))
            try simp only [Act.put, List.setIfInBounds_toArray, List.set_cons_zero, List.set_cons_succ]
            (refine wpAnyP_takeL (i := 24) (v := ?_) rfl (by kernel_rfl) (by kernel_rfl) (by kernel_rfl) (fun _ _ _ h => h) (by rfl) ?_ ?_; rotate_left 1; focus (intro w; go_simp; try with_reducible rfl))
            try simp only [Act.put, List.setIfInBounds_toArray, List.set_cons_zero, List.set_cons_succ]
            (refine wpAnyP_takeL (i := 25) (v := ?_) rfl (by kernel_rfl) (by kernel_rfl) (by kernel_rfl) (fun _ _ _ h => h) (by rfl) ?_ ?_; rotate_left 1; focus (intro w; go_simp; try with_reducible rfl))
            try simp only [Act.put, List.setIfInBounds_toArray, List.set_cons_zero, List.set_cons_succ]
            refine wpAnyP_step (i := 26) rfl (by kernel_rfl) (by rfl) (fun K hK => ?_)
            go_simp
            (refine (sameInts_any r1 r2 n1 n2 c1 c2 A1 A2 _ _ _ (HT5.out.1.1.old hV6) (HT5.out.1.2.old hV6) (by omega)).mono ?_; rw [decide_eq_true rfl]; rintro e v9 ⟨rfl, hb9⟩; have hM := hM.trans (hb9.mono hM.size); have hV6 := hV6.trans (hb9.mono hV6.size); clear hb9)
            (refine hK _ _ (HCL.out _ hM) (fun hF3 => ?_); clear hK K hF2)
            try simp only [Act.put, List.setIfInBounds_toArray, List.set_cons_zero, List.set_cons_succ]
            (refine wpAnyP_takeL (i := 27) (v := ?_) rfl (by kernel_rfl) (by kernel_rfl) (by kernel_rfl) (fun _ _ _ h => h) (by rfl) ?_ ?_; rotate_left 1; focus (intro w; go_simp; try with_reducible rfl))
            try simp only [Act.put, List.setIfInBounds_toArray, List.set_cons_zero, List.set_cons_succ]
            (refine wpAnyP_takeL (i := 28) (v := ?_) rfl (by kernel_rfl) (by kernel_rfl) (by kernel_rfl) (fun _ _ _ h => h) (by rfl) ?_ ?_; rotate_left 1; focus (intro w; go_simp; try with_reducible rfl))
            try simp only [Act.put, List.setIfInBounds_toArray, List.set_cons_zero, List.set_cons_succ]
            (refine wpAnyP_takeL (i := 29) (v := ?_) rfl (by kernel_rfl) (by kernel_rfl) (by kernel_rfl) (fun _ _ _ h => h) (by rfl) ?_ ?_; rotate_left 1; focus (intro w; go_simp; try with_reducible rfl))
            try simp only [Act.put, List.setIfInBounds_toArray, List.set_cons_zero, List.set_cons_succ]
            (refine wpAnyP_takeL (i := 30) (v := ?_) rfl (by kernel_rfl) (by kernel_rfl) (by kernel_rfl) (fun _ _ _ h => h) (by rfl) ?_ ?_; rotate_left 1; focus (intro w; go_simp; try with_reducible rfl))
            try simp only [Act.put, List.setIfInBounds_toArray, List.set_cons_zero, List.set_cons_succ]
            (refine wpAnyP_takeL (i := 31) (v := ?_) rfl (by kernel_rfl) (by kernel_rfl) (by kernel_rfl) (fun _ _ _ h => h) (by rfl) ?_ ?_; rotate_left 1; focus (intro w; go_simp; try with_reducible rfl))
            try simp only [Act.put, List.setIfInBounds_toArray, List.set_cons_zero, List.set_cons_succ]
            refine wpAnyP_step (i := 32) rfl (by kernel_rfl) (by rfl) (fun K hK => ?_)
            go_simp
            (refine (sameSpans_any r3 r4 n3 n4 c3 c4 A3 A4 _ _ _ (HT5.out.2.1.1.old hV6) (HT5.out.2.1.2.old hV6) (by omega)).mono ?_; rw [decide_eq_true rfl]; rintro e v10 ⟨rfl, hb10⟩; have hM := hM.trans (hb10.mono hM.size); have hV6 := hV6.trans (hb10.mono hV6.size); clear hb10)
            (refine hK _ _ (HCL.out _ hM) (fun hF4 => ?_); clear hK K hF3)
            try simp only [Act.put, List.setIfInBounds_toArray, List.set_cons_zero, List.set_cons_succ]
            (refine wpAnyP_takeL (i := 33) (v := ?_) rfl (by kernel_rfl) (by kernel_rfl) (by kernel_rfl) (fun _ _ _ h => h) (by rfl) ?_ ?_; rotate_left 1; focus (intro w; go_simp; try with_reducible rfl))
            try simp only [Act.put, List.setIfInBounds_toArray, List.set_cons_zero, List.set_cons_succ]
            (refine wpAnyP_takeL (i := 34) (v := ?_) rfl (by kernel_rfl) (by kernel_rfl) (by kernel_rfl) (fun _ _ _ h => h) (by rfl) ?_ ?_; rotate_left 1; focus (intro w; go_simp; try with_reducible rfl))
            try simp only [Act.put, List.setIfInBounds_toArray, List.set_cons_zero, List.set_cons_succ]
            (refine wpAnyP_takeL (i := 35) (v := ?_) rfl (by kernel_rfl) (by kernel_rfl) (by kernel_rfl) (fun _ _ _ h => h) (by rfl) ?_ ?_; rotate_left 1; focus (intro w; go_simp; try with_reducible rfl))
            try simp only [Act.put, List.setIfInBounds_toArray, List.set_cons_zero, List.set_cons_succ]
            (refine wpAnyP_takeL (i := 36) (v := ?_) rfl (by kernel_rfl) (by kernel_rfl) (by kernel_rfl) (fun _ _ _ h => h) (by rfl) ?_ ?_; rotate_left 1; focus (intro w; go_simp; try with_reducible rfl))
            try simp only [Act.put, List.setIfInBounds_toArray, List.set_cons_zero, List.set_cons_succ]
            (refine wpAnyP_takeL (i := 37) (v := ?_) rfl (by kernel_rfl) (by kernel_rfl) (by kernel_rfl) (fun _ _ _ h => h) (by rfl) ?_ ?_; rotate_left 1; focus (intro w; go_simp; try with_reducible rfl))
            try simp only [Act.put, List.setIfInBounds_toArray, List.set_cons_zero, List.set_cons_succ]
            refine wpAnyP_step (i := 38) rfl (by kernel_rfl) (by rfl) (fun K hK => ?_)
            go_simp
            (refine (sameSpans_any r5 r6 n5 n6 c5 c7 A5 A7 _ _ _ (HT5.out.2.2.1.old hV6) (HT5.out.2.2.2.old hV6) (by omega)).mono ?_; rw [decide_eq_true rfl]; rintro e v11 ⟨rfl, hb11⟩; have hM := hM.trans (hb11.mono hM.size); clear hb11 hV6)
            (refine hK _ _ (HCL.out _ hM) (fun hF5 => ?_); clear hK K hF4)
            try simp only [Act.put, List.setIfInBounds_toArray, List.set_cons_zero, List.set_cons_succ]
            (refine wpAnyP_takeL (i := 39) (v := ?_) rfl (by kernel_rfl) (by kernel_rfl) (by kernel_rfl) (fun _ _ _ h => h) (by rfl) ?_ ?_; rotate_left 1; focus (intro w; go_simp; try with_reducible rfl))
            try simp only [Act.put, List.setIfInBounds_toArray, List.set_cons_zero, List.set_cons_succ]
            (refine wpAnyP_takeL (i := 40) (v := ?_) rfl (by kernel_rfl) (by kernel_rfl) (by kernel_rfl) (fun _ _ _ h => h) (by rfl) ?_ ?_; rotate_left 1; focus (intro w; go_simp; try with_reducible rfl))
            try simp only [Act.put, List.setIfInBounds_toArray, List.set_cons_zero, List.set_cons_succ]
            refine wpAnyP_done (by kernel_rfl) ?_ _
            have HB7' := Lib.hid hM
            clear hM
            go_upto_region 21 with fail
            have hM : Below wo.heap.size wo v11.drew := HB7'.out.drew
            refine wp_region_PL [0, 4, 12] (fun W => (W.cell? ⟨Bo, 0, none⟩ = some (.slice Ac pn cc) ∧ W.cell? ⟨Bo, 1, none⟩ = some (.slice Ad pm cd)) ∧ (W.cell? ⟨X, i * 2, none⟩ = some (.slice Pb pn pc) ∧ W.cell? ⟨X, i * 2 + 1, none⟩ = some (.slice Pm pm pd) ∧ W.cell? ⟨X + 1, i, none⟩ = some (.slice Po po pe))) rfl (by kernel_rfl) (HCL.out _ hM) (fun hF0 => ?_)
            (refine wpAnyP_loadL (i := 0) (v := ?_) rfl (by kernel_rfl) (by kernel_rfl) (by kernel_rfl) (by rfl) (fun _ _ _ h => h) hF0 (by rfl) ?_ ?_; rotate_left 1; focus (intro w hFw; (try dsimp only at hFw); go_split_ands; go_simp; try with_reducible rfl))
            try simp only [Act.put, List.setIfInBounds_toArray, List.set_cons_zero, List.set_cons_succ]
            (refine wpAnyP_takeL (i := 1) (v := ?_) rfl (by kernel_rfl) (by kernel_rfl) (by kernel_rfl) (fun _ _ _ h => h) (by rfl) ?_ ?_; rotate_left 1; focus (intro w; go_simp; try with_reducible rfl))
            try simp only [Act.put, List.setIfInBounds_toArray, List.set_cons_zero, List.set_cons_succ]
            (refine wpAnyP_takeL (i := 2) (v := ?_) rfl (by kernel_rfl) (by kernel_rfl) (by kernel_rfl) (fun _ _ _ h => h) (by rfl) ?_ ?_; rotate_left 1; focus (intro w; go_simp; try with_reducible rfl))
            try simp only [Act.put, List.setIfInBounds_toArray, List.set_cons_zero, List.set_cons_succ]
            (refine wpAnyP_takeL (i := 3) (v := ?_) rfl (by kernel_rfl) (by kernel_rfl) (by kernel_rfl) (fun _ _ _ h => h) (by rfl) ?_ ?_; rotate_left 1; focus (intro w; go_simp; try with_reducible rfl))
            try simp only [Act.put, List.setIfInBounds_toArray, List.set_cons_zero, List.set_cons_succ]
            (refine wpAnyP_loadL (i := 4) (v := ?_) rfl (by kernel_rfl) (by kernel_rfl) (by kernel_rfl) (by rfl) (fun _ _ _ h => h) hF0 (by rfl) ?_ ?_; rotate_left 1; focus (intro w hFw; (try dsimp only at hFw); go_split_ands; go_simp; try with_reducible rfl))
            try simp only [Act.put, List.setIfInBounds_toArray, List.set_cons_zero, List.set_cons_succ]
            refine wpAnyP_step (i := 5) rfl (by kernel_rfl) (by rfl) (fun K hK => ?_)
            go_simp
            (refine (sameNets_any bb bm p1 p2 Ac Ad Pb Pm pn cc pm cd pn pc pm pd ps ps qs qs _ (HNM.out.old hM) (HXO.out _ hM).m (by omega) (by omega)).mono ?_; rw [decide_eq_true rfl, decide_eq_true rfl]; rintro e v12 ⟨rfl, hb12⟩; have hM := hM.trans (hb12.mono hM.size); clear hb12)
            (refine hK _ _ (HCL.out _ hM) (fun hF1 => ?_); clear hK K hF0)
            try simp only [Act.put, List.setIfInBounds_toArray, List.set_cons_zero, List.set_cons_succ]
            (refine wpAnyP_takeL (i := 6) (v := ?_) rfl (by kernel_rfl) (by kernel_rfl) (by kernel_rfl) (fun _ _ _ h => h) (by rfl) ?_ ?_; rotate_left 1; focus (intro w; go_simp; try with_reducible rfl))
            try simp only [Act.put, List.setIfInBounds_toArray, List.set_cons_zero, List.set_cons_succ]
            (refine wpAnyP_takeL (i := 7) (v := ?_) rfl (by kernel_rfl) (by kernel_rfl) (by kernel_rfl) (fun _ _ _ h => h) (by rfl) ?_ ?_; rotate_left 1; focus (intro w; go_simp; try with_reducible rfl))
            try simp only [Act.put, List.setIfInBounds_toArray, List.set_cons_zero, List.set_cons_succ]
            (refine wpAnyP_takeL (i := 8) (v := ?_) rfl (by kernel_rfl) (by kernel_rfl) (by kernel_rfl) (fun _ _ _ h => h) (by rfl) ?_ ?_; rotate_left 1; focus (intro w; go_simp; try with_reducible rfl))
            try simp only [Act.put, List.setIfInBounds_toArray, List.set_cons_zero, List.set_cons_succ]
            (refine wpAnyP_takeL (i := 9) (v := ?_) rfl (by kernel_rfl) (by kernel_rfl) (by kernel_rfl) (fun _ _ _ h => h) (by rfl) ?_ ?_; rotate_left 1; focus (intro w; go_simp; try with_reducible rfl))
            try simp only [Act.put, List.setIfInBounds_toArray, List.set_cons_zero, List.set_cons_succ]
            (refine wpAnyP_takeL (i := 10) (v := ?_) rfl (by kernel_rfl) (by kernel_rfl) (by kernel_rfl) (fun _ _ _ h => h) (by rfl) ?_ ?_; rotate_left 1; focus (intro w; go_simp; try with_reducible rfl))
            try simp only [Act.put, List.setIfInBounds_toArray, List.set_cons_zero, List.set_cons_succ]
            (refine wpAnyP_takeL (i := 11) (v := ?_) rfl (by kernel_rfl) (by kernel_rfl) (by kernel_rfl) (fun _ _ _ h => h) (by rfl) ?_ ?_; rotate_left 1; focus (intro w; go_simp; try with_reducible rfl))
            try simp only [Act.put, List.setIfInBounds_toArray, List.set_cons_zero, List.set_cons_succ]
            (refine wpAnyP_loadL (i := 12) (v := ?_) rfl (by kernel_rfl) (by kernel_rfl) (by kernel_rfl) (by rfl) (fun _ _ _ h => h) hF1 (by rfl) ?_ ?_; rotate_left 1; focus (intro w hFw; (try dsimp only at hFw); go_split_ands; go_simp; try with_reducible rfl))
            try simp only [Act.put, List.setIfInBounds_toArray, List.set_cons_zero, List.set_cons_succ]
            refine wpAnyP_step (i := 13) rfl (by kernel_rfl) (by rfl) (fun K hK => ?_)
            go_simp
            (refine (sameInts_any bo p3 po po ci pe Ai Po os os _ (HSO.out.old hM) (HXO.out _ hM).o (by omega)).mono ?_; rw [decide_eq_true rfl]; rintro e v13 ⟨rfl, hb13⟩; have hM := hM.trans (hb13.mono hM.size); clear hb13)
            (refine hK _ _ (HCL.out _ hM) (fun hF2 => ?_); clear hK K hF1)
            try simp only [Act.put, List.setIfInBounds_toArray, List.set_cons_zero, List.set_cons_succ]
            (refine wpAnyP_takeL (i := 14) (v := ?_) rfl (by kernel_rfl) (by kernel_rfl) (by kernel_rfl) (fun _ _ _ h => h) (by rfl) ?_ ?_; rotate_left 1; focus (intro w; go_simp; try with_reducible rfl))
            try simp only [Act.put, List.setIfInBounds_toArray, List.set_cons_zero, List.set_cons_succ]
            (refine wpAnyP_takeL (i := 15) (v := ?_) rfl (by kernel_rfl) (by kernel_rfl) (by kernel_rfl) (fun _ _ _ h => h) (by rfl) ?_ ?_; rotate_left 1; focus (intro w; go_simp; try with_reducible rfl))
            try simp only [Act.put, List.setIfInBounds_toArray, List.set_cons_zero, List.set_cons_succ]
            refine wpAnyP_done (by kernel_rfl) ?_ _
            have HBE := Lib.hid (HBR.out.trans ((HVC.out.trans (hM.mono HVC.out.size)).mono HBR.out.size))
            clear hM
            go_wp2_with fail
            go_roundw
            case rel => exact ⟨i + 1, by omega, by go_num, HBE.out⟩
            case measure => simp [intOf]; omega
        · obtain rfl : i = 4 := by omega
          go_wp2_with fail
          refine (kawake_any _).mono ?_
          rintro e w9 ⟨rfl, hB9⟩
          have HB9 := Lib.hid hB9
          clear hB9
          go_wp2_with fail
          go_ret
          have h1 := HWL.out.trans (HBR.out.mono HWL.out.size)
          exact ⟨rfl, h1.trans (HB9.out.mono h1.size)⟩
    · have dno : decide ((20 : Int) < (no : Int)) = true := by simp; omega
      go_enter Try.func10, Try.ntmps10
      go_wp2_with (first | (go_at_call 13; refine (HVA.out _).mono ?_; rintro e w1 ⟨rfl, hb1⟩; have HB1 := Lib.hid hb1; clear hb1) | (go_at_call 14; refine (kawake_any _).mono ?_; rintro e w2 ⟨rfl, hb2⟩; have HB2 := Lib.hid hb2; clear hb2))
      go_ret
      exact ⟨rfl, HB0.out.trans ((HB1.out.trans (HB2.out.mono HB1.out.size)).mono (by simp; omega))⟩
  · rw [vast_yes hv] at hva
    have HVA := Lib.hid hva
    clear hva hv
    go_enter Try.func10, Try.ntmps10
    go_wp2_with (first | (go_at_call 13; refine (HVA.out _).mono ?_; rintro e w1 ⟨rfl, hb1⟩; have HB1 := Lib.hid hb1; clear hb1) | (go_at_call 14; refine (kawake_any _).mono ?_; rintro e w2 ⟨rfl, hb2⟩; have HB2 := Lib.hid hb2; clear hb2))
    go_ret
    exact ⟨rfl, HB0.out.trans ((HB1.out.trans (HB2.out.mono HB1.out.size)).mono (by simp; omega))⟩
end Go.Proofs.Ytkphgdkjjklajaa
