/-
  What a recall does not reach holds nothing of the goods, and what it reaches holds all of them; in plain words. trailAwake: the examples of chapters 4 and 5. The walk of the law TopRecalled.
-/
import Derived.Test.YtmoolcpogilgkaaTraceLaw
import Derived.Test.YtmoolcpogilgkaaCold6
import Derived.Test.YtmoolcpogilgkaaTrRec
import Derived.Test.YtmoolcpogilgkaaSame
import Derived.Deep.QuietTactic
import Derived.BigQuiet
import Derived.Test.YtmoolcpogilgkaaTrGo2
import Derived.Test.YtmoolcpogilgkaaCold8
import Derived.Test.YtmoolcpogilgkaaLotOf
import Derived.Test.YtmoolcpogilgkaaSmall
import Derived.Deep.CutRange
set_option linter.unusedVariables false
set_option linter.unusedSimpArgs false
namespace Go.Proofs.Ytmoolcpogilgkaa

theorem sm_filter {p : Int → Bool} {f : Int → Int} : ∀ (l : List Int), (∀ x ∈ l, p x = false → f x = 0) → sm (l.filter p) f = sm l f
  | [], _ => rfl
  | x :: l, h => by
    have ih := sm_filter (p := p) (f := f) l (fun y hy => h y (List.mem_cons_of_mem _ hy))
    rw [List.filter_cons]
    by_cases hp : p x = true
    · rw [if_pos hp]; simp only [sm, ih]
    · rw [if_neg hp, ih, sm, h x (List.mem_cons_self ..) (by simpa using hp)]; omega
theorem sm_take {f : Int → Int} (l : List Int) (k : Nat) (hk : k < l.length) : sm (l.take (k + 1)) f = sm (l.take k) f + f l[k] := by
  rw [List.take_succ_eq_append_getElem hk, sm_append]; simp [sm]
theorem sm_take_bd {f : Int → Int} {l : List Int} {B : Int} (hB : 0 ≤ B) (h : ∀ x ∈ l, 0 ≤ f x ∧ f x ≤ B) : ∀ (k : Nat), k ≤ l.length → 0 ≤ sm (l.take k) f ∧ sm (l.take k) f ≤ k * B
  | 0, _ => by simp [sm]
  | k + 1, hk => by
    have ih := sm_take_bd hB h k (by omega)
    have h1 := h l[k] (List.getElem_mem _)
    rw [sm_take l k (by omega)]
    have : ((k + 1 : Nat) : Int) * B = (k : Int) * B + B := by rw [Int.natCast_add, Int.add_mul]; simp
    omega

theorem own_zero {b : Int} : ∀ {ms : List Mv} {xs : List Int} {a own : Int → Int}, isWay a own ms xs → own b = 0 → hitX b ms xs = false → ownAt own ms xs b = 0
  | [], [], _, _, _, h0, _ => h0
  | [], _ :: _, _, _, h, _, _ => h.elim
  | _ :: _, [], _, _, h, _, _ => h.elim
  | m :: ms, x :: xs, a, own, h, h0, hx => by
    rw [hitX, Bool.or_eq_false_iff, Bool.and_eq_false_iff] at hx
    rw [ownAt]
    refine own_zero (ms := ms) (xs := xs) h.2 ?_ hx.2
    have hx1 := h.1
    have h5 : b = m.to → x = 0 := fun e => by
      rcases hx.1 with h6 | h6
      · simp [e] at h6
      · have := of_decide_eq_false h6; omega
    have h7 : b = m.fr → x = 0 := fun e => by rw [e] at h0; omega
    unfold mvx mvd
    simp only [h0]
    by_cases h1 : b = m.fr
    · have := h7 h1
      by_cases h2 : b = m.to <;> simp [h1, h2, this]
    · by_cases h2 : b = m.to
      · have := h5 h2; simp [h2, this]
      · simp [h1, h2]
theorem own_notHad {bs : List Int} {ms : List Mv} (hN : NetIn bs ms) {l xs : List Int} (hx : isWay (bsF bs) (ownOf (bsF bs) l) ms xs) {b : Int} (h : hadT bs ms l xs b = false) : ownAt (ownOf (bsF bs) l) ms xs b = 0 := by
  unfold hadT at h
  rw [Bool.or_eq_false_iff, Bool.and_eq_false_iff] at h
  refine own_zero hx ?_ h.2
  unfold ownOf
  rcases h.1 with h1 | h1
  · rw [if_neg (of_decide_eq_false h1)]
  · have h2 := hN.pos b
    have h3 := of_decide_eq_false h1
    split <;> omega
theorem sumF_all {n : Nat} {a : Int → Int} : sumF n a (fun _ => true) = sm (rg n) a := by
  unfold sumF; simp
theorem own_sum {n : Nat} : ∀ {ms : List Mv} {xs : List Int} {a own : Int → Int}, OkMs n a ms → isWay a own ms xs → sm (rg n) (ownAt own ms xs) = sm (rg n) own
  | [], [], _, _, _, _ => rfl
  | [], _ :: _, _, _, _, h => h.elim
  | _ :: _, [], _, _, _, h => h.elim
  | m :: ms, x :: xs, a, own, hm, h => by
    have h1 := own_sum hm.2 h.2
    rw [ownAt, h1, ← sumF_all, ← sumF_all, sumF_mvx hm.1]
    simp
theorem sm_own {n : Nat} {l : List Int} (h : OrgIn n l) (bs : Int → Int) : sm (rg n) (ownOf bs l) = sm l bs := by
  have h1 : (rg n).filter (fun b => decide (b ∈ l)) = l := by
    refine sorted_ext ?_ h.up fun x => ?_
    · refine List.Pairwise.filter _ ?_
      exact (others_in n []).up.imp (fun h => h) |> fun hp => by
        have e : othersT n [] = rg n := by unfold othersT; simp
        rwa [e] at hp
    · rw [List.mem_filter, mem_rg]
      simp
      intro hx
      exact h.rg x hx
  have h2 : sm ((rg n).filter (fun b => decide (b ∈ l))) (ownOf bs l) = sm (rg n) (ownOf bs l) := sm_filter _ fun x _ hx => by
    unfold ownOf
    rw [if_neg (of_decide_eq_false hx)]
  rw [← h2, h1]
  exact sm_congr fun x hx => by unfold ownOf; rw [if_pos hx]
/-- all grams of the origins are in what the recall reached -/
theorem recall_all {bs : List Int} {ms : List Mv} (hN : NetIn bs ms) {l xs : List Int} (hl : OrgIn bs.length l) (hx : isWay (bsF bs) (ownOf (bsF bs) l) ms xs) :
    sm (recallT bs ms l) (ownAt (ownOf (bsF bs) l) ms xs) = sm l (bsF bs) := by
  rw [← sm_own hl, ← own_sum hN.ms hx]
  unfold recallT
  refine sm_filter _ fun x hx1 hx2 => own_notHad hN hx ?_
  by_cases h : hadT bs ms l xs x = true
  · have h2 := way_had hN l hx (mem_rg.1 hx1).1 (mem_rg.1 hx1).2 h
    unfold recallT at h2
    rw [List.mem_filter] at h2
    rw [h2.2] at hx2
    exact absurd hx2 (by simp)
  · simpa using h
theorem recall_in {bs : List Int} {ms : List Mv} {l : List Int} {x : Int} (h : x ∈ recallT bs ms l) : 0 ≤ x ∧ x < bs.length := by
  unfold recallT at h
  exact mem_rg.1 (List.mem_filter.1 h).1
theorem recall_len8 (bs : List Int) (ms : List Mv) (l : List Int) : (recallT bs ms l).length ≤ bs.length := by
  unfold recallT
  refine Nat.le_trans (List.length_filter_le ..) ?_
  rw [show (rg bs.length).length = bs.length by simp [rg]]
  exact Nat.le_refl _
/-- what is not reached -/
theorem free_of {bs : List Int} {ms : List Mv} (hN : NetIn bs ms) {l xs : List Int} (hx : isWay (bsF bs) (ownOf (bsF bs) l) ms xs) {b : Int} (h0 : 0 ≤ b) (h1 : b < bs.length) (hb : b ∉ recallT bs ms l) :
    hadT bs ms l xs b = false ∧ ownAt (ownOf (bsF bs) l) ms xs b = 0 := by
  have h : hadT bs ms l xs b = false := by
    by_cases h : hadT bs ms l xs b = true
    · exact absurd (way_had hN l hx h0 h1 h) hb
    · simpa using h
  exact ⟨h, own_notHad hN hx h⟩
end Go.Proofs.Ytmoolcpogilgkaa

namespace Go.Proofs.Ytmoolcpogilgkaa
open Go.RowKit Go.Shelf

def wkC : CelT := ⟨0, 0, [], [], [⟨0, 2⟩]⟩
def wkL : LotT := ⟨0, 5, []⟩
theorem wkC_ok : CelOk wkC := ⟨by decide, by decide, by simp [wkC], by decide, by simp [wkC], by intro k h; simp [wkC] at h, by decide, by intro r hr; simp [wkC] at hr; subst hr; exact ⟨by decide, by decide⟩, by intro k h; simp [wkC] at h⟩
theorem wkL_ok : LotOk wkC.boxes.length wkL := ⟨by decide, by decide, by decide, by simp [wkL], by intro h; simp [wkL] at h, by intro k h; simp [wkL] at h⟩
theorem wk_last : lastT wkC wkL = 2 := by kernel_rfl
theorem wk_chk : chkO [5, 0, 4] [⟨0, 1, 2⟩] [0] = 0 := by kernel_rfl
theorem wk_rec : recallT [5, 0, 4] [⟨0, 1, 2⟩] [0] = [0, 1] := by kernel_rfl

set_option maxRecDepth 100000 in
set_option maxHeartbeats 1000000 in
theorem trailAwake_any (w : World) : Calls Try.prog 16 #[] w fun e w' => e = .returned (.bool true) ∧ Below w.heap.size w w' := by
  have hb0 := (Below.refl w.heap.size w).alloc (Nat.le_refl _) (.cells #[.int .i64 0, .int .i64 2] 78)
  have HB1 := Lib.hid ((hb0).alloc hb0.size (.cells #[.int .i64 0, .int .i64 0, .slice none 0 0, .slice none 0 0, .slice (some ⟨w.heap.size, 0, none⟩) 1 1] 37))
  have HR := Lib.hid ((Sl.new encRt_len w [(⟨0, 2⟩ : RateT)] 78 #[.int .i64 0, .int .i64 2] rfl).old ((Below.refl _ _).alloc (Nat.le_refl _) (.cells #[.int .i64 0, .int .i64 0, .slice none 0 0, .slice none 0 0, .slice (some ⟨w.heap.size, 0, none⟩) 1 1] 37)))
  have HLA := Lib.hid (fun (W : World) (h : Sl encRt 2 W w.heap.size (some ⟨w.heap.size, 0, none⟩) 1 [(⟨0, 2⟩ : RateT)]) => last_any ⟨none, 0, 0, 0, none, 0, 0, 0, some ⟨w.heap.size, 0, none⟩, 1, 1, w.heap.size⟩ wkC ⟨none, 0, 0, 0⟩ wkL W wkC_ok wkL_ok ⟨Sl.nil _ _ _, Sl.nil _ _ _, h⟩ (Sl.nil _ _ _))
  clear hb0
  go_enter Try.func16, Try.ntmps16
  go_wp2_with fail
  refine (HLA.out _ HR.out).mono ?_
  rw [wk_last]
  rintro e w1 ⟨rfl, hb1⟩
  have HB2 := Lib.hid (HB1.out.trans (hb1.mono HB1.out.size))
  clear hb1 HB1 HR HLA
  have h1 := (Sl.newI w1 [5, 0, 4] 3).alloc (.cells #[.int .i64 0, .int .i64 1, .int .i64 2] 70)
  have h2 := Sl.new encM_len (w1.alloc (.cells #[.int .i64 5, .int .i64 0, .int .i64 4] 3)) [(⟨0, 1, 2⟩ : Mv)] 70 #[.int .i64 0, .int .i64 1, .int .i64 2] rfl
  rw [World.size_alloc] at h2
  have h3 := Sl.newI ((w1.alloc (.cells #[.int .i64 5, .int .i64 0, .int .i64 4] 3)).alloc (.cells #[.int .i64 0, .int .i64 1, .int .i64 2] 70)) [0] 3
  rw [World.size_alloc, World.size_alloc] at h3
  have HN := Lib.hid (show NetM _ w1.heap.size (w1.heap.size + 1) (some ⟨w1.heap.size, 0, none⟩) (some ⟨w1.heap.size + 1, 0, none⟩) 3 3 1 1 [5, 0, 4] [⟨0, 1, 2⟩] from ⟨h1.alloc (.cells #[.int .i64 0] 3), h2.alloc (.cells #[.int .i64 0] 3), by omega, by omega⟩)
  have HO := Lib.hid h3
  have HB3 := Lib.hid (((HB2.out.alloc HB2.out.size (.cells #[.int .i64 5, .int .i64 0, .int .i64 4] 3)).alloc (by have := HB2.out.size; simp; omega) (.cells #[.int .i64 0, .int .i64 1, .int .i64 2] 70)).alloc (by have := HB2.out.size; simp; omega) (.cells #[.int .i64 0] 3))
  clear h1 h2 h3
  go_wp2_with fail
  refine (Recall_ok _ _ _ _ _ _ 3 3 1 1 1 1 [5, 0, 4] [⟨0, 1, 2⟩] [0] _ HN.out HO.out wk_chk).mono ?_
  rw [wk_rec]
  rintro e w2 ⟨A, c, rfl, ho, hb2⟩
  obtain ⟨b, hbz, hs⟩ := Sl.of_own (enc := encI) encI_len (l := [0, 1]) rfl (by rw [flatI]; exact ho)
  have HB4 := Lib.hid (HB3.out.trans (hb2.mono HB3.out.size))
  have HS := Lib.hid (hs.alloc (.cells #[.int .i64 0, .int .i64 1] 3))
  have HS2 := Lib.hid (Sl.newI w2 [0, 1] 3)
  clear ho hb2 hs
  go_wp2_with fail
  refine (sameInts_any _ _ 2 2 _ _ _ _ [0, 1] [0, 1] _ HS.out HS2.out (by omega)).mono ?_
  rintro e w3 ⟨rfl, hb3⟩
  have HB5 := Lib.hid ((HB4.out.alloc HB4.out.size _).trans (hb3.mono (HB4.out.alloc HB4.out.size _).size))
  clear hb3
  go_wp2_with fail
  go_ret
  exact ⟨by simp, HB5.out⟩
end Go.Proofs.Ytmoolcpogilgkaa

namespace Go.Proofs.Ytmoolcpogilgkaa
open Go.RowKit Go.Shelf Go.Sort

section
variable {w W W' : World} {d Bn b1 b2 nb cb nm cm : Nat} {Ab Am : Option Addr} {bs : List Int} {ms : List Mv}
theorem LawSt.recallY (h : LawSt w W d Bn b1 b2 Ab Am nb cb nm cm bs ms) {b3 no co : Nat} {Ao : Option Addr} {l : List Int} (hO : Sl encI 1 W b3 Ao no l) (hl : OrgIn bs.length l) :
    Calls Try.prog 9 #[netV Ab Am nb cb nm cm, .slice Ao no co] W fun e W' => ∃ A c bR, e = .returned (.tuple #[.slice A (recallT bs ms l).length c, .int .i64 0]) ∧ Sl encI 1 W' bR A (recallT bs ms l).length (recallT bs ms l) ∧ W.heap.size ≤ bR ∧ Below W.heap.size W W' :=
  (Recall_ok b1 b2 b3 Ab Am Ao nb cb nm cm no co bs ms l W h.net hO (chkO_zero (chkNet_zero h.ni) hl)).mono fun e W' ⟨A, c, he, ho, hb⟩ => by
    obtain ⟨bR, hz, hs⟩ := Sl.of_own (enc := encI) encI_len rfl (by rw [flatI]; exact ho)
    exact ⟨A, c, bR, he, hs, hz, hb⟩
end
/-- a net, origins, what a recall reached, a cellar -/
structure TS (w W : World) (d Bn b1 b2 b3 b7 Bc : Nat) (Ab Am Ao A7 : Option Addr) (nb cb nm cm : Nat) (bs : List Int) (ms : List Mv) (l : List Int) (p : CelP) (c : CelT) : Prop where
  law : LawSt w W d Bn b1 b2 Ab Am nb cb nm cm bs ms
  org : Sl encI 1 W b3 Ao l.length l
  r : Sl encI 1 W b7 A7 (recallT bs ms l).length (recallT bs ms l)
  cel : Blk W Bc 37 (celA p c)
  cm : CelM W p c
  ne : b3 ≠ d ∧ b7 ≠ d ∧ Bc ≠ d ∧ p.bb ≠ d ∧ p.bf ≠ d ∧ p.br ≠ d
section
variable {w W W1 W' W0 : World} {d Bn b1 b2 b3 b7 Bc nb cb nm cm : Nat} {Ab Am Ao A7 : Option Addr} {bs : List Int} {ms : List Mv} {l : List Int} {p : CelP} {c : CelT}
theorem TS.below (h : TS w W d Bn b1 b2 b3 b7 Bc Ab Am Ao A7 nb cb nm cm bs ms l p c) (hb : Below W.heap.size W W') : TS w W' d Bn b1 b2 b3 b7 Bc Ab Am Ao A7 nb cb nm cm bs ms l p c :=
  ⟨h.law.below hb, h.org.old hb, h.r.old hb, h.cel.below hb h.cel.lt, h.cm.old hb, h.ne⟩
theorem TS.dieTo (h : TS w W d Bn b1 b2 b3 b7 Bc Ab Am Ao A7 nb cb nm cm bs ms l p c) (hd1 : IsDie W' d) (hg : W.grownBy W' (some d)) : TS w W' d Bn b1 b2 b3 b7 Bc Ab Am Ao A7 nb cb nm cm bs ms l p c :=
  ⟨h.law.dieTo hd1 hg, h.org.grown hg (fun _ e => h.ne.1 (by injection e)), h.r.grown hg (fun _ e => h.ne.2.1 (by injection e)), h.cel.grown hg (fun e => h.ne.2.2.1 (by injection e)),
    ⟨h.cm.b.grown hg (fun _ e => h.ne.2.2.2.1 (by injection e)), h.cm.f.grown hg (fun _ e => h.ne.2.2.2.2.1 (by injection e)), h.cm.r.grown hg (fun _ e => h.ne.2.2.2.2.2 (by injection e))⟩, h.ne⟩
theorem TS.alloc (h : TS w W d Bn b1 b2 b3 b7 Bc Ab Am Ao A7 nb cb nm cm bs ms l p c) (o : Obj) : TS w (W.alloc o) d Bn b1 b2 b3 b7 Bc Ab Am Ao A7 nb cb nm cm bs ms l p c := h.below ((Below.refl _ W).alloc (Nat.le_refl _) o)
theorem TS.drewN (h : TS w W d Bn b1 b2 b3 b7 Bc Ab Am Ao A7 nb cb nm cm bs ms l p c) (n : Nat) : TS w (W.drewN n) d Bn b1 b2 b3 b7 Bc Ab Am Ao A7 nb cb nm cm bs ms l p c := h.below (below_drewN (Below.refl _ W) n)
theorem TS.grownOn (h : TS w W d Bn b1 b2 b3 b7 Bc Ab Am Ao A7 nb cb nm cm bs ms l p c) (h0 : TS w W0 d Bn b1 b2 b3 b7 Bc Ab Am Ao A7 nb cb nm cm bs ms l p c) {row : Option Nat} (hg : W.grownBy W' row) (hr : ∀ r, row = some r → W0.heap.size ≤ r) : TS w W' d Bn b1 b2 b3 b7 Bc Ab Am Ao A7 nb cb nm cm bs ms l p c :=
  ⟨h.law.grownOn h0.law hg hr, h.org.grown hg (fun hn e => by have := h0.org.lt hn; have := hr _ e.symm; omega), h.r.grown hg (fun hn e => by have := h0.r.lt hn; have := hr _ e.symm; omega), h.cel.grown hg (fun e => by have := h0.cel.lt; have := hr _ e.symm; omega),
    ⟨h.cm.b.grown hg (fun hn e => by have := h0.cm.b.lt hn; have := hr _ e.symm; omega), h.cm.f.grown hg (fun hn e => by have := h0.cm.f.lt hn; have := hr _ e.symm; omega), h.cm.r.grown hg (fun hn e => by have := h0.cm.r.lt hn; have := hr _ e.symm; omega)⟩, h.ne⟩

/-- and two rows that grow, of lots and of sales -/
structure TL (w W W0 : World) (d Bn b1 b2 b3 b7 Bc : Nat) (Ab Am Ao A7 : Option Addr) (nb cb nm cm : Nat) (bs : List Int) (ms : List Mv) (l : List Int) (p : CelP) (c : CelT) (vL vS : Value) (L : List (LotP × LotT)) (D : List (Int × Int)) : Prop where
  s : TS w W d Bn b1 b2 b3 b7 Bc Ab Am Ao A7 nb cb nm cm bs ms l p c
  s0 : TS w W0 d Bn b1 b2 b3 b7 Bc Ab Am Ao A7 nb cb nm cm bs ms l p c
  z : W0.heap.size ≤ W.heap.size
  lo : W.ownsRow W0.heap.size 46 3 vL L.length (L.flatMap encLt)
  so : W.ownsRow W0.heap.size 53 2 vS D.length (D.flatMap encSd)
  st : ∀ x ∈ L, LotM W x.1 x.2
  sp : ∀ r, vL.ownBlock = some r → vS.ownBlock ≠ some r
  sl : ∀ x ∈ L, 0 < x.1.ns → W0.heap.size ≤ x.1.bs ∧ vL.ownBlock ≠ some x.1.bs ∧ vS.ownBlock ≠ some x.1.bs
variable {vL vS : Value} {L : List (LotP × LotT)} {D : List (Int × Int)}
theorem own_or {v : Value} {row : Option Nat} (h : ∀ r, v.ownBlock = some r → row ≠ some r) : v.ownBlock = none ∨ v.ownBlock ≠ row := by
  cases hv : v.ownBlock with
  | none => exact .inl rfl
  | some k => exact .inr (fun e => h k hv e.symm)
theorem TL.below (h : TL w W W0 d Bn b1 b2 b3 b7 Bc Ab Am Ao A7 nb cb nm cm bs ms l p c vL vS L D) (hb : Below W.heap.size W W') : TL w W' W0 d Bn b1 b2 b3 b7 Bc Ab Am Ao A7 nb cb nm cm bs ms l p c vL vS L D :=
  ⟨h.s.below hb, h.s0, Nat.le_trans h.z hb.size, ownsRow_below h.lo hb (Nat.le_refl _), ownsRow_below h.so hb (Nat.le_refl _), fun x hx => (h.st x hx).old hb, h.sp, h.sl⟩
theorem TL.alloc (h : TL w W W0 d Bn b1 b2 b3 b7 Bc Ab Am Ao A7 nb cb nm cm bs ms l p c vL vS L D) (o : Obj) : TL w (W.alloc o) W0 d Bn b1 b2 b3 b7 Bc Ab Am Ao A7 nb cb nm cm bs ms l p c vL vS L D := h.below ((Below.refl _ W).alloc (Nat.le_refl _) o)
theorem TL.dieTo (h : TL w W W0 d Bn b1 b2 b3 b7 Bc Ab Am Ao A7 nb cb nm cm bs ms l p c vL vS L D) (hd1 : IsDie W' d) (hg : W.grownBy W' (some d)) : TL w W' W0 d Bn b1 b2 b3 b7 Bc Ab Am Ao A7 nb cb nm cm bs ms l p c vL vS L D := by
  have hz := h.s0.law.die.lt
  exact ⟨h.s.dieTo hd1 hg, h.s0, Nat.le_trans h.z hg.size, ownsRow_die h.lo hg hz, ownsRow_die h.so hg hz, fun x hx => (h.st x hx).grown hg (fun hn e => by have := (h.sl x hx hn).1; injection e; omega), h.sp, h.sl⟩
/-- a lot more -/
theorem TL.lot (h : TL w W W0 d Bn b1 b2 b3 b7 Bc Ab Am Ao A7 nb cb nm cm bs ms l p c vL vS L D) {v' : Value} {x : LotP × LotT} (hg : W.grownBy W' vL.ownBlock) (ho : W'.ownsRow W0.heap.size 46 3 v' (L.length + 1) (L.flatMap encLt ++ encLt x))
    (hv : v'.ownBlock = vL.ownBlock ∨ v'.ownBlock = some W.heap.size) (hx : LotM W x.1 x.2) (hx2 : 0 < x.1.ns → W0.heap.size ≤ x.1.bs ∧ vL.ownBlock ≠ some x.1.bs ∧ vS.ownBlock ≠ some x.1.bs) :
    TL w W' W0 d Bn b1 b2 b3 b7 Bc Ab Am Ao A7 nb cb nm cm bs ms l p c v' vS (L ++ [x]) D := by
  have hN : ∀ y : LotP × LotT, LotM W y.1 y.2 → (0 < y.1.ns → W0.heap.size ≤ y.1.bs ∧ vL.ownBlock ≠ some y.1.bs ∧ vS.ownBlock ≠ some y.1.bs) → LotM W' y.1 y.2 ∧ (0 < y.1.ns → W0.heap.size ≤ y.1.bs ∧ v'.ownBlock ≠ some y.1.bs ∧ vS.ownBlock ≠ some y.1.bs) := fun y hy hy2 =>
    ⟨hy.grown hg (fun hn e => (hy2 hn).2.1 e.symm), fun hn => ⟨(hy2 hn).1, by
      rcases hv with hv | hv
      · rw [hv]; exact (hy2 hn).2.1
      · rw [hv]; have := hy.lt hn; intro e; injection e; omega, (hy2 hn).2.2⟩⟩
  refine ⟨h.s.grownOn h.s0 hg (fun r e => (h.lo.lt r e).1), h.s0, Nat.le_trans h.z hg.size, ?_, h.so.kept hg (own_or fun r hr e => h.sp r e hr), fun y hy => ?_, fun r hr e => ?_, fun y hy => ?_⟩
  · rw [List.length_append, List.flatMap_append, List.flatMap_cons, List.flatMap_nil, List.append_nil]; exact ho
  · rcases List.mem_append.1 hy with hy | hy
    · exact (hN y (h.st y hy) (h.sl y hy)).1
    · rw [List.mem_singleton.1 hy]; exact (hN x hx hx2).1
  · rcases hv with hv | hv
    · exact h.sp r (hv ▸ hr) e
    · rw [hv] at hr; injection hr with hr; have := (h.so.lt r e).2; omega
  · rcases List.mem_append.1 hy with hy | hy
    · exact (hN y (h.st y hy) (h.sl y hy)).2
    · rw [List.mem_singleton.1 hy]; exact (hN x hx hx2).2
/-- a sale more -/
theorem TL.sale (h : TL w W W0 d Bn b1 b2 b3 b7 Bc Ab Am Ao A7 nb cb nm cm bs ms l p c vL vS L D) {v' : Value} {x : Int × Int} (hg : W.grownBy W' vS.ownBlock) (ho : W'.ownsRow W0.heap.size 53 2 v' (D.length + 1) (D.flatMap encSd ++ encSd x))
    (hv : v'.ownBlock = vS.ownBlock ∨ v'.ownBlock = some W.heap.size) :
    TL w W' W0 d Bn b1 b2 b3 b7 Bc Ab Am Ao A7 nb cb nm cm bs ms l p c vL v' L (D ++ [x]) := by
  refine ⟨h.s.grownOn h.s0 hg (fun r e => (h.so.lt r e).1), h.s0, Nat.le_trans h.z hg.size, h.lo.kept hg (own_or fun r hr e => h.sp r hr e), ?_, fun y hy => (h.st y hy).grown hg (fun hn e => (h.sl y hy hn).2.2 e.symm), fun r hr e => ?_, fun y hy hn => ⟨(h.sl y hy hn).1, (h.sl y hy hn).2.1, ?_⟩⟩
  · rw [List.length_append, List.flatMap_append, List.flatMap_cons, List.flatMap_nil, List.append_nil]; exact ho
  · rcases hv with hv | hv
    · exact h.sp r hr (hv ▸ e)
    · rw [hv] at e; injection e with e; have := (h.lo.lt r hr).2; omega
  · rcases hv with hv | hv
    · rw [hv]; exact (h.sl y hy hn).2.2
    · rw [hv]; have := (h.st y hy).lt hn; intro e; injection e; omega
end
/-- and what was sold, and what was said of it -/
structure TQ (w W : World) (d Bn b1 b2 b3 b7 bS bA : Nat) (Ab Am Ao A7 AS AA : Option Addr) (nb cb nm cm m : Nat) (bs : List Int) (ms : List Mv) (l : List Int) (D : List (Int × Int)) : Prop where
  law : LawSt w W d Bn b1 b2 Ab Am nb cb nm cm bs ms
  org : Sl encI 1 W b3 Ao l.length l
  r : Sl encI 1 W b7 A7 (recallT bs ms l).length (recallT bs ms l)
  s : Sl encSd 2 W bS AS m D
  a : Sl encI 1 W bA AA m (List.replicate m 0)
  ne : b3 ≠ d ∧ b7 ≠ d ∧ bS ≠ d ∧ bA ≠ d
section
variable {w W W' : World} {d Bn b1 b2 b3 b7 bS bA nb cb nm cm m : Nat} {Ab Am Ao A7 AS AA : Option Addr} {bs : List Int} {ms : List Mv} {l : List Int} {D : List (Int × Int)}
theorem TQ.below (h : TQ w W d Bn b1 b2 b3 b7 bS bA Ab Am Ao A7 AS AA nb cb nm cm m bs ms l D) (hb : Below W.heap.size W W') : TQ w W' d Bn b1 b2 b3 b7 bS bA Ab Am Ao A7 AS AA nb cb nm cm m bs ms l D :=
  ⟨h.law.below hb, h.org.old hb, h.r.old hb, h.s.old hb, h.a.old hb, h.ne⟩
theorem TQ.dieTo (h : TQ w W d Bn b1 b2 b3 b7 bS bA Ab Am Ao A7 AS AA nb cb nm cm m bs ms l D) (hd1 : IsDie W' d) (hg : W.grownBy W' (some d)) : TQ w W' d Bn b1 b2 b3 b7 bS bA Ab Am Ao A7 AS AA nb cb nm cm m bs ms l D :=
  ⟨h.law.dieTo hd1 hg, h.org.grown hg (fun _ e => h.ne.1 (by injection e)), h.r.grown hg (fun _ e => h.ne.2.1 (by injection e)), h.s.grown hg (fun _ e => h.ne.2.2.1 (by injection e)), h.a.grown hg (fun _ e => h.ne.2.2.2 (by injection e)), h.ne⟩
theorem TQ.drewN (h : TQ w W d Bn b1 b2 b3 b7 bS bA Ab Am Ao A7 AS AA nb cb nm cm m bs ms l D) (n : Nat) : TQ w (W.drewN n) d Bn b1 b2 b3 b7 bS bA Ab Am Ao A7 AS AA nb cb nm cm m bs ms l D := h.below (below_drewN (Below.refl _ W) n)
end
/-- how goods truly went, in memory -/
structure GoN (W : World) (Bg H D bT nb nm cT : Nat) (AT : Option Addr) (bs : List Int) (ms : List Mv) (l xs : List Int) : Prop where
  g : Blk W Bg 59 #[.slice AT nm cT, .slice (some ⟨H, 0, none⟩) nb nb, .slice (some ⟨D, 0, none⟩) nb nb]
  h : RowC W H ((rg nb).map (ownAt (ownOf (bsF bs) l) ms xs))
  d : BRow W D nb (hadT bs ms l xs)
theorem GoN.below {W W' : World} {Bg H D bT nb nm cT : Nat} {AT : Option Addr} {bs : List Int} {ms : List Mv} {l xs : List Int} (h : GoN W Bg H D bT nb nm cT AT bs ms l xs) (hb : Below W.heap.size W W') : GoN W' Bg H D bT nb nm cT AT bs ms l xs :=
  ⟨h.g.below hb h.g.lt, h.h.oldG hb, h.d.old hb⟩
theorem info_lot3 : (Try.prog.info? 46).map (fun i => (i.zero, i.size, i.bytes)) = some (some (.agg #[.int .i64 0, .int .i64 0, .slice none 0 0]), 3, 40) := by kernel_rfl
theorem info_soldL : (Try.prog.info? 53).map (fun i => (i.zero, i.size, i.bytes)) = some (some (.agg #[.int .i64 0, .int .i64 0]), 2, 16) := by kernel_rfl
theorem oneLt (x : LotP × LotT) : ∀ u ∈ encLt x, u.oneCell' = true := by simp [encLt, Value.oneCell']
theorem oneSd (x : Int × Int) : ∀ u ∈ encSd x, u.oneCell' = true := by simp [encSd, Value.oneCell']
theorem saleOk_snoc {c : CelT} {L : List (LotP × LotT)} {x : LotP × LotT} {s : Int × Int} (h : SaleOkC c L s) : SaleOkC c (L ++ [x]) s := by
  obtain ⟨i, hi, h1, h2, h3⟩ := h
  exact ⟨i, by simp; omega, h1, by rw [List.getElem_append_left hi]; exact h2, by rw [List.getElem_append_left hi]; exact h3⟩

set_option maxRecDepth 100000 in
set_option maxHeartbeats 4000000 in
theorem topRecalled_any (A : Option Addr) (n c : Nat) (w : World) (hN : Nums w A n) : Calls Try.prog 3 #[.slice A n c] w fun e w' => e = .returned (.bool true) ∧ Below w.heap.size w w' := by
  go_enter Try.func3, Try.ntmps3
  obtain ⟨b, l0, hl0, hw0, hn0⟩ := hN
  go_wp2_with fail
  refine (dieOf_any b n c A l0 _ hl0 hn0 hw0).mono ?_
  rintro e w1 ⟨d, hd, rfl, hdie, hB1⟩
  have HB1 := Lib.hid hB1
  have hz1 := hB1.size
  clear hl0 hw0 hB1
  go_wp2_with fail
  refine (one_any d _ 3 3 _ [5, 60, 1000] _ (hdie.alloc _) (Sl.newI w1 [5, 60, 1000] 3) (by omega) (by omega) (by have := hdie.lt; omega)).mono ?_
  rintro e w2 ⟨g, hg, rfl, hd2, hg2⟩
  have hgb : 0 ≤ g ∧ g ≤ 1000000 := by simp at hg; omega
  have HG2 := Lib.hid (only_step hg2 (only_alloc (only_refl w1 d) _) (.inl rfl))
  clear hg hg2
  go_wp2_with fail
  refine (netOf_any d 6 8 g _ hd2 (by omega) (by omega) (by omega) hgb.1 hgb.2).mono ?_
  rintro e w3 ⟨bs, ms, b1, b2, Ab, Am, nb, cb, nm, cm, hNI, hnb, hnm, rfl, hNM, hb1, hb2, hd3, hg3⟩
  have hz2 := HG2.out.size
  have hg13 := only_trans HG2.out hg3
  have hz3 := hg3.size
  have hdz2 := hd2.lt
  have HB3 := Lib.hid (Below.stepG hg13 HB1.out (Nat.le_refl _) hd)
  have HS3 := Lib.hid (show LawSt w (w3.alloc (.cells #[.slice Ab nb cb, .slice Am nm cm] 27)) d w3.heap.size b1 b2 Ab Am nb cb nm cm bs ms from ⟨HB3.out.alloc HB3.out.size _, Blk.new w3 _ _, hNM.old ((Below.refl _ w3).alloc (Nat.le_refl _) _), hNI, hd3.alloc _, by omega, by omega, by omega, hd⟩)
  have hnb8 : nb ≤ 8 := by omega
  have hnm12 : nm ≤ 12 := by omega
  have HNB := Lib.hid HS3.out.nb_eq
  have HNMq := Lib.hid HS3.out.nm_eq
  clear hd2 hNM hNI hd3 hg3 hg13 hb1 hb2
  have c0 := HS3.out.blk.cell 0
  have c1 := HS3.out.blk.cell 1
  go_wp2_with fail
  refine (originsOf_any d nb cb nm cm Ab Am _ HS3.out.die (by omega)).mono ?_
  rintro e w4 ⟨l, Ao, co, hl, rfl, hol, hd4, hg4⟩
  rw [HNB.out] at hl
  obtain ⟨b3, hb3, hsl⟩ := Sl.of_own (enc := encI) encI_len rfl hol
  have hl8 : l.length ≤ 8 := by have := orig_len hl.nodup hl.rg HS3.out.ni.n1; omega
  have hzd := HS3.out.die.lt
  have HS4 := Lib.hid (HS3.out.dieTo hd4 hg4)
  have HSL := Lib.hid hsl
  have HL := Lib.hid hl
  have h3d : b3 ≠ d := by omega
  clear hol hd4 hg4 hsl hl c0 c1
  go_wp2_with fail
  refine (cellarOf_any d 2 3 _ HS4.out.die (by omega) (by omega)).mono ?_
  rintro e w5 ⟨p, c, hcok, hcm, he, hpb, hpf, hpr, hd5, hg5⟩
  have he : e = .returned (.agg #[.int .i64 c.hlo, .int .i64 c.hhi, .slice p.Ab p.nb p.cb, .slice p.Af p.nf p.cf, .slice p.Ar p.nr p.cr]) := he
  subst he
  have hz4 := HS4.out.die.lt
  have hpd : p.bb ≠ d ∧ p.bf ≠ d ∧ p.br ≠ d := ⟨by omega, by omega, by omega⟩
  have HC := Lib.hid hcok
  have HCM := Lib.hid hcm
  have HS5 := Lib.hid (HS4.out.dieTo hd5 hg5)
  have HSL5 := Lib.hid (HSL.out.grown hg5 (fun _ e => h3d (by injection e)))
  have hz5 := hg5.size
  clear hcok hcm hd5 hg5 hpb hpf hpr HS4 HSL
  have HS6 := Lib.hid (HS5.out.alloc (.cells #[.int .i64 c.hlo, .int .i64 c.hhi, .slice p.Ab p.nb p.cb, .slice p.Af p.nf p.cf, .slice p.Ar p.nr p.cr] 37))
  have c0 := HS6.out.blk.cell 0
  have c1 := HS6.out.blk.cell 1
  go_wp2_with fail
  refine (HS6.out.recallY (HSL5.out.alloc _) HL.out).mono ?_
  rintro e w7 ⟨A7, c7, b7, rfl, hs7, hb7, hB7⟩
  have hz6 := HS6.out.die.lt
  have hbc : w5.heap.size ≠ d := by have := HS5.out.die.lt; omega
  have HT0 := Lib.hid (show TS w w7 d w3.heap.size b1 b2 b3 b7 w5.heap.size Ab Am Ao A7 nb cb nm cm bs ms l p c from ⟨HS6.out.below hB7, (HSL5.out.alloc _).old hB7, hs7, ((Blk.new w5 37 (celA p c))).below hB7 (by simp), (HCM.out.old ((Below.refl _ w5).alloc (Nat.le_refl _) _)).old hB7, h3d, by omega, hbc, hpd⟩)
  have hr8 : (recallT bs ms l).length ≤ 8 := by have := recall_len8 bs ms l; have := HNB.out; omega
  clear c0 c1 hs7 hB7 HS3 HS5 HS6 HSL5 HCM hb7 hb3 hzd hz4 hz5 hz6 hpd
  obtain ⟨n7, hn7⟩ : ∃ n7, n7 = (recallT bs ms l).length := ⟨_, rfl⟩
  rw [← hn7] at hr8 ⊢
  have HN7 := Lib.hid hn7
  clear hn7
  have HZ := Lib.hid (show TL w w7 w7 d w3.heap.size b1 b2 b3 b7 w5.heap.size Ab Am Ao A7 nb cb nm cm bs ms l p c (.slice none 0 0) (.slice none 0 0) [] [] from
    ⟨HT0.out, HT0.out, Nat.le_refl _, World.ownsRow_nil _ _ _ _, World.ownsRow_nil _ _ _ _, by simp, by simp [Value.ownBlock], by simp⟩)
  go_wp2_with fail
  go_loopw [9, 10, 11] (fun lv sv i wr => ∃ (k cL m cS : Nat) (AL AS : Option Addr) (L : List (LotP × LotT)) (D : List (Int × Int)), lv = .slice AL k cL ∧ sv = .slice AS m cS ∧ i = .int .i64 k ∧ k ≤ nb ∧ m ≤ k ∧ k = L.length ∧ m = D.length ∧ (∀ x ∈ L, LotOk c.boxes.length x.2) ∧ (∀ s ∈ D, SaleOkC c L s ∧ s.1 ∉ recallT bs ms l) ∧
    TL w wr w7 d w3.heap.size b1 b2 b3 b7 w5.heap.size Ab Am Ao A7 nb cb nm cm bs ms l p c (.slice AL k cL) (.slice AS m cS) L D) (fun _ _ i _ => nb - (intOf i).toNat)
  case atStart => exact ⟨0, 0, 0, 0, none, none, [], [], rfl, rfl, rfl, Nat.zero_le _, Nat.le_refl _, rfl, rfl, by simp, by simp, HZ.out⟩
  case round =>
    obtain ⟨k, cL, m, cS, AL, AS, L, D, rfl, rfl, rfl, hk, hm, hkL, hmD, hLO, hDO, hT⟩ := hrel
    have HKL := Lib.hid hkL
    have HMD := Lib.hid hmD
    have HLO := Lib.hid hLO
    have HDO := Lib.hid hDO
    have HT := Lib.hid hT
    clear hkL hmD hLO hDO hT
    by_cases hlt : k < nb
    · have n0 := HT.out.s.law.blk.cell 0
      have g0 : (wr).cell? ⟨w5.heap.size, 0, none⟩ = some (.int .i64 c.hlo) := HT.out.s.cel.cell 0
      have g1 : (wr).cell? ⟨w5.heap.size, 1, none⟩ = some (.int .i64 c.hhi) := HT.out.s.cel.cell 1
      have g2 : (wr).cell? ⟨w5.heap.size, 2, none⟩ = some (.slice p.Ab p.nb p.cb) := HT.out.s.cel.cell 2
      have g3 : (wr).cell? ⟨w5.heap.size, 3, none⟩ = some (.slice p.Af p.nf p.cf) := HT.out.s.cel.cell 3
      have g4 : (wr).cell? ⟨w5.heap.size, 4, none⟩ = some (.slice p.Ar p.nr p.cr) := HT.out.s.cel.cell 4
      go_wp2_with fail
      refine (lotOf_any d 2 p c _ HT.out.s.law.die (by omega) HT.out.s.cm.b.len (by have := HT.out.s.cm.b.len; have := HC.out.bn; omega)).mono ?_
      rintro e w8 ⟨q, lt, hlo, hb9, hlm, he, hqb, hd8, hg8⟩
      have he : e = .returned (.agg #[.int .i64 lt.born, .int .i64 lt.keeps, .slice q.As q.ns q.cs]) := he
      subst he
      have hbn0 := hlo.born
      have hla := last_fresh HC.out hlo
      have HLa := Lib.hid hla.1
      have HLb := Lib.hid hla.2.1
      have HLO8 := Lib.hid hlo
      have HT8 := Lib.hid ((HT.out.dieTo hd8 hg8).alloc (.cells #[.int .i64 lt.born, .int .i64 lt.keeps, .slice q.As q.ns q.cs] 46))
      have HLB8 := Lib.hid (Blk.new w8 46 #[.int .i64 lt.born, .int .i64 lt.keeps, .slice q.As q.ns q.cs])
      have HLM8 := Lib.hid (show LotM _ q lt from hlm.alloc (.cells #[.int .i64 lt.born, .int .i64 lt.keeps, .slice q.As q.ns q.cs] 46))
      have hQ := hqb
      have hzr := hg8.size
      have HZ8 := Lib.hid (show (∀ r, (Value.slice AL k cL).ownBlock = some r → r < wr.heap.size) ∧ (∀ r, (Value.slice AS m cS).ownBlock = some r → r < wr.heap.size) ∧ w7.heap.size ≤ wr.heap.size from ⟨fun r e => (HT.out.lo.lt r e).2, fun r e => (HT.out.so.lt r e).2, HT.out.z⟩)
      clear hlm hqb hd8 hg8 hlo hla n0 g0 g1 g2 g3 g4 HT
      have k0 := HLB8.out.cell 0
      have k1 := HLB8.out.cell 1
      have k2 := HLB8.out.cell 2
      obtain ⟨i0, hi, iz0, iz1, iz2⟩ := info_parts info_lot3
      have hTb := HT8.out.alloc (.cells #[.int .i64 lt.born, .int .i64 lt.keeps, .slice q.As q.ns q.cs] 46)
      have hlo9 := hTb.lo
      rw [← HKL.out] at hlo9
      have hS9 := Sl.new encLt_len (w8.alloc (.cells #[.int .i64 lt.born, .int .i64 lt.keeps, .slice q.As q.ns q.cs] 46)) [(q, lt)] 46 #[.int .i64 lt.born, .int .i64 lt.keeps, .slice q.As q.ns q.cs] rfl
      rw [World.size_alloc] at hS9
      go_upto_region 15 with (at_builtin; refine wpList_append_sl rfl _ _ 42 rfl w7.heap.size 46 i0 _ 40 Try.underlying42 hi iz0 iz1 iz2 rfl (by omega) encLt_len _ k _ rfl hlo9 _ _ 1 1 [(q, lt)] rfl hS9 oneLt (by unfold maxLen; omega) (by omega) hTb.z ?_; intro A9 c9 w9 hO9 hg9 hor9; have HT9 := Lib.hid (hTb.lot (x := (q, lt)) hg9 (by rw [← HKL.out]; simpa using hO9) hor9 (HLM8.out.alloc _) (fun hn => ⟨by have := HZ8.out.2.2; show w7.heap.size ≤ q.bs; omega, fun e => by have := HZ8.out.1 _ e; simp only at this; omega, fun e => by have := HZ8.out.2.1 _ e; simp only at this; omega⟩)); have HLB9 := Lib.hid ((HLB8.out.alloc _).grown hg9 (fun e => by have := HZ8.out.1 _ e.symm; omega)); have HLM9 := Lib.hid (show LotM w9 q lt from (HT9.out.st (q, lt) (by simp))))
      clear hTb hlo9 hS9 hO9 hg9 hor9 k0 k1 k2 HT8 HLB8 HLM8 HZ8 hQ hzr
      have g0 : (w9).cell? ⟨w5.heap.size, 0, none⟩ = some (.int .i64 c.hlo) := HT9.out.s.cel.cell 0
      have g1 : (w9).cell? ⟨w5.heap.size, 1, none⟩ = some (.int .i64 c.hhi) := HT9.out.s.cel.cell 1
      have g2 : (w9).cell? ⟨w5.heap.size, 2, none⟩ = some (.slice p.Ab p.nb p.cb) := HT9.out.s.cel.cell 2
      have g3 : (w9).cell? ⟨w5.heap.size, 3, none⟩ = some (.slice p.Af p.nf p.cf) := HT9.out.s.cel.cell 3
      have g4 : (w9).cell? ⟨w5.heap.size, 4, none⟩ = some (.slice p.Ar p.nr p.cr) := HT9.out.s.cel.cell 4
      have k0 := HLB9.out.cell 0
      have k1 := HLB9.out.cell 1
      have k2 := HLB9.out.cell 2
      go_wp2_with fail
      refine (last_any p c q lt _ HC.out HLO8.out HT9.out.s.cm HLM9.out).mono ?_
      rintro e w10 ⟨rfl, hB10⟩
      have HT10 := Lib.hid (HT9.out.below hB10)
      have HLB10 := Lib.hid (HLB9.out.below hB10 HLB9.out.lt)
      clear hB10 k0 k1 k2 g0 g1 g2 g3 g4 HT9 HLB9 HLM9
      obtain ⟨la, hla⟩ : ∃ la, lastT c lt = la := ⟨_, rfl⟩
      have HLA := Lib.hid hla
      have hla1 := HLa.out
      have hla2 := HLb.out
      rw [hla] at hla1 hla2 ⊢
      have hdl : decide (la < lt.born) = false := by simp; omega
      have k0 := HLB10.out.cell 0
      clear hla HLa HLb
      go_wp2_with fail
      refine (has_any b7 n7 c7 A7 (recallT bs ms l) (k : Int) _ (by have h := HT10.out.s.r; rw [← HN7.out] at h; exact h) (by omega)).mono ?_
      have HLEN := Lib.hid (show (L ++ [(q, lt)]).length = k + 1 by simp [HKL.out])
      have HLO2 := Lib.hid (show ∀ x ∈ L ++ [(q, lt)], LotOk c.boxes.length x.2 from fun x hx => by
        rcases List.mem_append.1 hx with hx | hx
        · exact HLO.out x hx
        · rw [List.mem_singleton.1 hx]; exact HLO8.out)
      have HDO2 := Lib.hid (show ∀ s ∈ D, SaleOkC c (L ++ [(q, lt)]) s ∧ s.1 ∉ recallT bs ms l from fun s hs => ⟨saleOk_snoc (HDO.out s hs).1, (HDO.out s hs).2⟩)
      by_cases hin : (k : Int) ∈ recallT bs ms l
      · rw [decide_eq_true hin]
        rintro e w11 ⟨rfl, hw11⟩
        subst hw11
        go_wp2_with fail
        exact ⟨⟨k + 1, c9, m, cS, A9, AS, L ++ [(q, lt)], D, rfl, rfl, by go_num, by omega, by omega, HLEN.out.symm, HMD.out, HLO2.out, HDO2.out, HT10.out⟩, by simp [intOf]; omega⟩
      · rw [decide_eq_false hin]
        rintro e w11 ⟨rfl, hw11⟩
        subst hw11
        go_wp2_with fail
        refine (from_any d lt.born la _ HT10.out.s.law.die (by omega) (by omega) (by omega) (by omega)).mono ?_
        rintro e w12 ⟨hr, ⟨hr1, hr2, _⟩, rfl, hd12, hg12⟩
        have hr3 := hr2 hla1
        have HT12 := Lib.hid (HT10.out.dieTo hd12 hg12)
        clear hd12 hg12 hr2 HT10 HLB10 k0
        obtain ⟨i1, hi1, jz0, jz1, jz2⟩ := info_parts info_soldL
        have hTb := HT12.out.alloc (.cells #[.int .i64 k, .int .i64 hr] 53)
        have hso := hTb.so
        rw [← HMD.out] at hso
        have hS13 := Sl.new encSd_len w12 [((k : Int), hr)] 53 #[.int .i64 k, .int .i64 hr] rfl
        go_wp2_with (at_builtin; refine wpList_append_sl rfl _ _ 43 rfl w7.heap.size 53 i1 _ 16 Try.underlying43 hi1 jz0 jz1 jz2 rfl (by omega) encSd_len _ m _ rfl hso _ _ 1 1 [((k : Int), hr)] rfl hS13 oneSd (by unfold maxLen; omega) (by omega) hTb.z ?_; intro A13 c13 w13 hO13 hg13 hor13; have HT13 := Lib.hid (hTb.sale (x := ((k : Int), hr)) hg13 (by rw [← HMD.out]; simpa using hO13) hor13))
        exact ⟨⟨k + 1, c9, m + 1, c13, A9, A13, L ++ [(q, lt)], D ++ [((k : Int), hr)], rfl, rfl, by go_num, by omega, by omega, HLEN.out.symm, by simp [HMD.out], HLO2.out, fun s hs => by
          rcases List.mem_append.1 hs with hs | hs
          · exact HDO2.out s hs
          · rw [List.mem_singleton.1 hs]
            exact ⟨⟨k, by rw [HLEN.out]; omega, rfl, by simp [HKL.out]; exact hr1, by simp [HKL.out, HLA.out]; exact hr3⟩, hin⟩, HT13.out⟩, by simp [intOf]; omega⟩
    · obtain rfl : k = nb := by omega
      obtain ⟨bL, hbL, hsL⟩ := Sl.of_own (enc := encLt) encLt_len rfl (by have h := HT.out.lo; rw [show (Value.slice AL k cL) = .slice AL L.length cL by rw [HKL.out]] at h; exact h)
      obtain ⟨bS, hbS, hsS⟩ := Sl.of_own (enc := encSd) encSd_len rfl (by have h := HT.out.so; rw [show (Value.slice AS m cS) = .slice AS D.length cS by rw [HMD.out]] at h; exact h)
      rw [← HKL.out] at hsL
      rw [← HMD.out] at hsS
      have HSL := Lib.hid hsL
      have HSS := Lib.hid hsS
      have hzd0 := HT0.out.law.die.lt
      clear hsL hsS hbL
      have n0 := HT.out.s.law.blk.cell 0
      have g0 : (wr).cell? ⟨w5.heap.size, 0, none⟩ = some (.int .i64 c.hlo) := HT.out.s.cel.cell 0
      have g1 : (wr).cell? ⟨w5.heap.size, 1, none⟩ = some (.int .i64 c.hhi) := HT.out.s.cel.cell 1
      have g2 : (wr).cell? ⟨w5.heap.size, 2, none⟩ = some (.slice p.Ab p.nb p.cb) := HT.out.s.cel.cell 2
      have g3 : (wr).cell? ⟨w5.heap.size, 3, none⟩ = some (.slice p.Af p.nf p.cf) := HT.out.s.cel.cell 3
      have g4 : (wr).cell? ⟨w5.heap.size, 4, none⟩ = some (.slice p.Ar p.nr p.cr) := HT.out.s.cel.cell 4
      go_wp2_with fail
      refine (sell_any p c bL k cL AL L bS m cS AS D _ HC.out HT.out.s.cm HSL.out (by omega) (fun x hx => ⟨HT.out.st x hx, HLO.out x hx⟩) HSS.out (by omega) (fun s hs => (HDO.out s hs).1)).mono ?_
      rintro e w8 ⟨⟨bA, AA, cA, rfl, hsA, hbA⟩, hB8⟩
      have hzr := HT.out.s.law.die.lt
      have HQ := Lib.hid (show TQ w w8 d w3.heap.size b1 b2 b3 b7 bS bA Ab Am Ao A7 AS AA k cb nm cm m bs ms l D from ⟨HT.out.s.law.below hB8, HT.out.s.org.old hB8, HT.out.s.r.old hB8, HSS.out.old hB8, hsA, h3d, HT.out.s.ne.2.1, by omega, by omega⟩)
      clear hsA hbA hB8 hbS HSL HSS n0 g0 g1 g2 g3 g4 HZ HT0 hzr hzd0
      have hmm : ((m : Int) != (m : Int)) = false := by simp
      go_wp2_with fail
      have HTK := Lib.hid (fun (x : Int) => (bsF_in HT.out.s.law.ni.gr x))
      go_loopw [17, 18] (fun v i wr => ∃ j : Nat, j ≤ l.length ∧ v = .int .i64 (sm (l.take j) (bsF bs)) ∧ i = .int .i64 j ∧ TQ w wr d w3.heap.size b1 b2 b3 b7 bS bA Ab Am Ao A7 AS AA k cb nm cm m bs ms l D) (fun _ i _ => l.length - (intOf i).toNat)
      case atStart => exact ⟨0, Nat.zero_le _, rfl, rfl, HQ.out⟩
      case round =>
        obtain ⟨j, hj, rfl, rfl, hQ⟩ := hrel
        have hsb := sm_take_bd (f := bsF bs) (l := l) (B := 1000000) (by omega) (fun x _ => HTK.out x) j hj
        by_cases hlt2 : j < l.length
        · have HSM := Lib.hid (sm_take (f := bsF bs) l j hlt2)
          have hx := HL.out.rg l[j] (List.getElem_mem _)
          have hv := HTK.out l[j]
          obtain ⟨o3, rfl, _, x0⟩ := hQ.org.atI (k := j) hlt2
          obtain ⟨f, hf⟩ := Int.eq_ofNat_of_zero_le hx.1
          have hfb : f < bs.length := by omega
          obtain ⟨o1, rfl, _, x1⟩ := hQ.law.net.b.atI (k := f) hfb
          rw [← bsF_get hfb, ← hf] at x1
          have n0 := hQ.law.blk.cell 0
          rw [hf] at x0
          obtain ⟨y, hy⟩ : ∃ y, bsF bs l[j] = y := ⟨_, rfl⟩
          rw [hy] at x1 hv
          have HY := Lib.hid hy
          obtain ⟨t, ht⟩ : ∃ t, sm (l.take j) (bsF bs) = t := ⟨_, rfl⟩
          rw [ht] at hsb ⊢
          have HTT := Lib.hid ht
          have j0 : (0 : Int) ≤ (j : Int) := by omega
          have j1 : (j : Int) < (l.length : Int) := by omega
          have f0 : (0 : Int) ≤ (f : Int) := by omega
          have f1 : (f : Int) < (k : Int) := by have := HNB.out; omega
          have t0 : 0 ≤ t ∧ t ≤ 8000000 := by omega
          obtain ⟨t0, t1⟩ := t0
          obtain ⟨v0, v1⟩ := hv
          have HQj := Lib.hid hQ
          have hFF : wr.cell? ⟨w3.heap.size, 0, none⟩ = some (.slice (some ⟨b1, o1, none⟩) k cb) ∧ wr.cell? ⟨b3, o3 + j, none⟩ = some (.int .i64 f) ∧ wr.cell? ⟨b1, o1 + f, none⟩ = some (.int .i64 y) := ⟨n0, x0, x1⟩
          clear hf hy ht hsb hQ n0 x0 x1 hx
          have HW1 := Lib.hid (show IntKind.i64.wrap (t + y) = t + y from IntWalk.i64_in _ (by omega))
          go_upto_region 27 with fail
          refine wp_region_PL [2, 6, 8] (fun W => W.cell? ⟨w3.heap.size, 0, none⟩ = some (.slice (some ⟨b1, o1, none⟩) k cb) ∧ W.cell? ⟨b3, o3 + j, none⟩ = some (.int .i64 f) ∧ W.cell? ⟨b1, o1 + f, none⟩ = some (.int .i64 y)) rfl (by kernel_rfl) (hFF) (fun hF0 => ?_)
          (refine wpAnyP_takeL (i := 0) (v := ?_) rfl (by kernel_rfl) (by kernel_rfl) (by kernel_rfl) (fun _ _ _ h => h) (by rfl) ?_ ?_; rotate_left 1; focus (intro w; go_simp; try with_reducible rfl))
          try simp only [Act.put, List.setIfInBounds_toArray, List.set_cons_zero, List.set_cons_succ]
          (refine wpAnyP_takeL (i := 1) (v := ?_) rfl (by kernel_rfl) (by kernel_rfl) (by kernel_rfl) (fun _ _ _ h => h) (by rfl) ?_ ?_; rotate_left 1; focus (intro w; go_simp; try with_reducible rfl))
          try simp only [Act.put, List.setIfInBounds_toArray, List.set_cons_zero, List.set_cons_succ]
          (refine wpAnyP_loadL (i := 2) (v := ?_) rfl (by kernel_rfl) (by kernel_rfl) (by kernel_rfl) (by rfl) (fun _ _ _ h => h) hF0 (by rfl) ?_ ?_; rotate_left 1; focus (intro w hFw; (try dsimp only at hFw); go_split_ands; go_simp; try with_reducible rfl))
          try simp only [Act.put, List.setIfInBounds_toArray, List.set_cons_zero, List.set_cons_succ]
          (refine wpAnyP_takeL (i := 3) (v := ?_) rfl (by kernel_rfl) (by kernel_rfl) (by kernel_rfl) (fun _ _ _ h => h) (by rfl) ?_ ?_; rotate_left 1; focus (intro w; go_simp; try with_reducible rfl))
          try simp only [Act.put, List.setIfInBounds_toArray, List.set_cons_zero, List.set_cons_succ]
          (refine wpAnyP_takeL (i := 4) (v := ?_) rfl (by kernel_rfl) (by kernel_rfl) (by kernel_rfl) (fun _ _ _ h => h) (by rfl) ?_ ?_; rotate_left 1; focus (intro w; go_simp; try with_reducible rfl))
          try simp only [Act.put, List.setIfInBounds_toArray, List.set_cons_zero, List.set_cons_succ]
          (refine wpAnyP_takeL (i := 5) (v := ?_) rfl (by kernel_rfl) (by kernel_rfl) (by kernel_rfl) (fun _ _ _ h => h) (by rfl) ?_ ?_; rotate_left 1; focus (intro w; go_simp; try with_reducible rfl))
          try simp only [Act.put, List.setIfInBounds_toArray, List.set_cons_zero, List.set_cons_succ]
          (refine wpAnyP_loadL (i := 6) (v := ?_) rfl (by kernel_rfl) (by kernel_rfl) (by kernel_rfl) (by rfl) (fun _ _ _ h => h) hF0 (by rfl) ?_ ?_; rotate_left 1; focus (intro w hFw; (try dsimp only at hFw); go_split_ands; go_simp; try with_reducible rfl))
          try simp only [Act.put, List.setIfInBounds_toArray, List.set_cons_zero, List.set_cons_succ]
          (refine wpAnyP_takeL (i := 7) (v := ?_) rfl (by kernel_rfl) (by kernel_rfl) (by kernel_rfl) (fun _ _ _ h => h) (by rfl) ?_ ?_; rotate_left 1; focus (intro w; go_simp; try with_reducible rfl))
          try simp only [Act.put, List.setIfInBounds_toArray, List.set_cons_zero, List.set_cons_succ]
          (refine wpAnyP_loadL (i := 8) (v := ?_) rfl (by kernel_rfl) (by kernel_rfl) (by kernel_rfl) (by rfl) (fun _ _ _ h => h) hF0 (by rfl) ?_ ?_; rotate_left 1; focus (intro w hFw; (try dsimp only at hFw); go_split_ands; go_simp; try with_reducible rfl))
          try simp only [Act.put, List.setIfInBounds_toArray, List.set_cons_zero, List.set_cons_succ]
          (refine wpAnyP_takeL (i := 9) (v := ?_) rfl (by kernel_rfl) (by kernel_rfl) (by kernel_rfl) (fun _ _ _ h => h) (by rfl) ?_ ?_; rotate_left 1; focus (intro w; go_simp; (first | (rw [HW1.out]) | (with_reducible rfl))))
          try simp only [Act.put, List.setIfInBounds_toArray, List.set_cons_zero, List.set_cons_succ]
          (refine wpAnyP_takeL (i := 10) (v := ?_) rfl (by kernel_rfl) (by kernel_rfl) (by kernel_rfl) (fun _ _ _ h => h) (by rfl) ?_ ?_; rotate_left 1; focus (intro w; go_simp; try with_reducible rfl))
          try simp only [Act.put, List.setIfInBounds_toArray, List.set_cons_zero, List.set_cons_succ]
          refine wpAnyP_done (by kernel_rfl) ?_ _
          go_wp2_with fail
          exact ⟨⟨j + 1, by omega, by rw [HSM.out, HTT.out, HY.out], by go_num, HQj.out.below ((Below.refl wr.heap.size wr).drew)⟩, by simp [intOf]; omega⟩
        · obtain rfl : j = l.length := by omega
          rw [List.take_length] at hsb ⊢
          obtain ⟨G, hG⟩ : ∃ G, sm l (bsF bs) = G := ⟨_, rfl⟩
          rw [hG] at hsb ⊢
          have HGG := Lib.hid hG
          have HQ2 := Lib.hid hQ
          have G0 : 0 ≤ G ∧ G ≤ 8000000 := by omega
          obtain ⟨G0, G1⟩ := G0
          clear hG hQ hsb HQ
          go_wp2_with fail
          go_loopw [19] (fun i wr => ∃ q : Nat, q ≤ 4 ∧ i = .int .i64 q ∧ TQ w wr d w3.heap.size b1 b2 b3 b7 bS bA Ab Am Ao A7 AS AA k cb nm cm m bs ms l D) (fun i _ => 4 - (intOf i).toNat)
          case atStart => exact ⟨0, Nat.zero_le _, rfl, HQ2.out⟩
          case round =>
            obtain ⟨q, hq, rfl, hQ⟩ := hrel
            have HQq := Lib.hid hQ
            clear hQ
            by_cases hq4 : q < 4
            · have q4 : (q : Int) < 4 := by omega
              have c0 := HQq.out.law.blk.cell 0
              have c1 := HQq.out.law.blk.cell 1
              go_wp2_with fail
              refine (goesOf_any d b1 b2 b3 Ab Am Ao k cb nm cm l.length co bs ms l _ HQq.out.law.die HQq.out.law.ni HQq.out.law.net HQq.out.org HL.out HQq.out.law.ne.1 HQq.out.law.ne.2.1 HQq.out.ne.1).mono ?_
              rintro e w9 ⟨xs, AT, H, Dh, cT, bT, hway, rfl, hst, hrh, hrd, hzt, hzh, hzD, hd9, hg9⟩
              have HQ9 := Lib.hid ((HQq.out.dieTo hd9 hg9).below ((Below.refl _ w9).alloc (Nat.le_refl _) (.cells #[.slice AT nm cT, .slice (some ⟨H, 0, none⟩) k k, .slice (some ⟨Dh, 0, none⟩) k k] 59)))
              have HG9 := Lib.hid (show GoN (w9.alloc (.cells #[.slice AT nm cT, .slice (some ⟨H, 0, none⟩) k k, .slice (some ⟨Dh, 0, none⟩) k k] 59)) w9.heap.size H Dh bT k nm cT AT bs ms l xs from
                ⟨Blk.new w9 _ _, hrh.oldG ((Below.refl _ w9).alloc (Nat.le_refl _) _), hrd.old ((Below.refl _ w9).alloc (Nat.le_refl _) _)⟩)
              have HWY := Lib.hid hway
              clear c0 c1 hst hrh hrd hzt hzh hzD hd9 hg9 hway HQq
              go_wp2_with fail
              go_loopw [21] (fun i wr => ∃ j : Nat, j ≤ m ∧ i = .int .i64 j ∧ TQ w wr d w3.heap.size b1 b2 b3 b7 bS bA Ab Am Ao A7 AS AA k cb nm cm m bs ms l D ∧ GoN wr w9.heap.size H Dh bT k nm cT AT bs ms l xs) (fun i _ => m - (intOf i).toNat)
              case atStart => exact ⟨0, Nat.zero_le _, rfl, HQ9.out, HG9.out⟩
              case round =>
                obtain ⟨j, hj, rfl, hQ, hG⟩ := hrel
                by_cases hlt3 : j < m
                · obtain ⟨oA, rfl, _, x0⟩ := hQ.a.atI (k := j) (by simpa using hlt3)
                  rw [List.getElem_replicate] at x0
                  have hjD : j < D.length := by have := HMD.out; omega
                  obtain ⟨oS, rfl, _, x1, _⟩ := hQ.s.atSd (k := j) hjD
                  obtain ⟨⟨f, hf1, hf2, _⟩, hf3⟩ := HDO.out D[j] (List.getElem_mem _)
                  rw [hf2] at x1 hf3
                  have hfk : f < k := by have := HKL.out; omega
                  obtain ⟨hh1, hh2⟩ := free_of hQ.law.ni HWY.out (b := (f : Int)) (by omega) (by have := HNB.out; omega) hf3
                  have z0 := hG.h.cell (k := f) (by rw [has_len]; exact hfk)
                  rw [has_get hfk, hh2] at z0
                  have z1 := hG.d.cell hfk
                  rw [hh1] at z1
                  have g1 : wr.cell? ⟨w9.heap.size, 1, none⟩ = some (.slice (some ⟨H, 0, none⟩) k k) := hG.g.cell 1
                  have g2 : wr.cell? ⟨w9.heap.size, 2, none⟩ = some (.slice (some ⟨Dh, 0, none⟩) k k) := hG.g.cell 2
                  have hFF : (wr.cell? ⟨bA, oA + j, none⟩ = some (.int .i64 0) ∧ wr.cell? ⟨bS, oS + j * 2, none⟩ = some (.int .i64 f)) ∧ (wr.cell? ⟨w9.heap.size, 1, none⟩ = some (.slice (some ⟨H, 0, none⟩) k k) ∧ wr.cell? ⟨H, f, none⟩ = some (.int .i64 0)) ∧ wr.cell? ⟨w9.heap.size, 2, none⟩ = some (.slice (some ⟨Dh, 0, none⟩) k k) ∧ wr.cell? ⟨Dh, f, none⟩ = some (.bool false) := ⟨⟨x0, x1⟩, ⟨g1, z0⟩, g2, z1⟩
                  have j0 : (0 : Int) ≤ (j : Int) := by omega
                  have j1 : (j : Int) < (m : Int) := by omega
                  have f0 : (0 : Int) ≤ (f : Int) := by omega
                  have f1 : (f : Int) < (k : Int) := by omega
                  have HTj := Lib.hid hQ
                  have HGj := Lib.hid hG
                  clear hQ hG x0 x1 z0 z1 g1 g2 hh1 hh2 hf3 hf2
                  go_upto_region 35 with fail
                  refine wp_region_PL [3, 7, 12, 14, 18, 23, 25] (fun W => (W.cell? ⟨bA, oA + j, none⟩ = some (.int .i64 0) ∧ W.cell? ⟨bS, oS + j * 2, none⟩ = some (.int .i64 f)) ∧ (W.cell? ⟨w9.heap.size, 1, none⟩ = some (.slice (some ⟨H, 0, none⟩) k k) ∧ W.cell? ⟨H, f, none⟩ = some (.int .i64 0)) ∧ W.cell? ⟨w9.heap.size, 2, none⟩ = some (.slice (some ⟨Dh, 0, none⟩) k k) ∧ W.cell? ⟨Dh, f, none⟩ = some (.bool false)) rfl (by kernel_rfl) (hFF) (fun hF0 => ?_)
                  (refine wpAnyP_takeL (i := 0) (v := ?_) rfl (by kernel_rfl) (by kernel_rfl) (by kernel_rfl) (fun _ _ _ h => h) (by rfl) ?_ ?_; rotate_left 1; focus (intro w; go_simp; try with_reducible rfl))
                  try simp only [Act.put, List.setIfInBounds_toArray, List.set_cons_zero, List.set_cons_succ]
                  (refine wpAnyP_takeL (i := 1) (v := ?_) rfl (by kernel_rfl) (by kernel_rfl) (by kernel_rfl) (fun _ _ _ h => h) (by rfl) ?_ ?_; rotate_left 1; focus (intro w; go_simp; try with_reducible rfl))
                  try simp only [Act.put, List.setIfInBounds_toArray, List.set_cons_zero, List.set_cons_succ]
                  (refine wpAnyP_takeL (i := 2) (v := ?_) rfl (by kernel_rfl) (by kernel_rfl) (by kernel_rfl) (fun _ _ _ h => h) (by rfl) ?_ ?_; rotate_left 1; focus (intro w; go_simp; try with_reducible rfl))
                  try simp only [Act.put, List.setIfInBounds_toArray, List.set_cons_zero, List.set_cons_succ]
                  (refine wpAnyP_loadL (i := 3) (v := ?_) rfl (by kernel_rfl) (by kernel_rfl) (by kernel_rfl) (by rfl) (fun _ _ _ h => h) hF0 (by rfl) ?_ ?_; rotate_left 1; focus (intro w hFw; (try dsimp only at hFw); go_split_ands; go_simp; try with_reducible rfl))
                  try simp only [Act.put, List.setIfInBounds_toArray, List.set_cons_zero, List.set_cons_succ]
                  (refine wpAnyP_takeL (i := 4) (v := ?_) rfl (by kernel_rfl) (by kernel_rfl) (by kernel_rfl) (fun _ _ _ h => h) (by rfl) ?_ ?_; rotate_left 1; focus (intro w; go_simp; try with_reducible rfl))
                  try simp only [Act.put, List.setIfInBounds_toArray, List.set_cons_zero, List.set_cons_succ]
                  (refine wpAnyP_takeL (i := 5) (v := ?_) rfl (by kernel_rfl) (by kernel_rfl) (by kernel_rfl) (fun _ _ _ h => h) (by rfl) ?_ ?_; rotate_left 1; focus (intro w; go_simp; try with_reducible rfl))
                  try simp only [Act.put, List.setIfInBounds_toArray, List.set_cons_zero, List.set_cons_succ]
                  (refine wpAnyP_takeL (i := 6) (v := ?_) rfl (by kernel_rfl) (by kernel_rfl) (by kernel_rfl) (fun _ _ _ h => h) (by rfl) ?_ ?_; rotate_left 1; focus (intro w; go_simp; try with_reducible rfl))
                  try simp only [Act.put, List.setIfInBounds_toArray, List.set_cons_zero, List.set_cons_succ]
                  (refine wpAnyP_loadL (i := 7) (v := ?_) rfl (by kernel_rfl) (by kernel_rfl) (by kernel_rfl) (by rfl) (fun _ _ _ h => h) hF0 (by rfl) ?_ ?_; rotate_left 1; focus (intro w hFw; (try dsimp only at hFw); go_split_ands; go_simp; try with_reducible rfl))
                  try simp only [Act.put, List.setIfInBounds_toArray, List.set_cons_zero, List.set_cons_succ]
                  (refine wpAnyP_takeL (i := 8) (v := ?_) rfl (by kernel_rfl) (by kernel_rfl) (by kernel_rfl) (fun _ _ _ h => h) (by rfl) ?_ ?_; rotate_left 1; focus (intro w; go_simp; try with_reducible rfl))
                  try simp only [Act.put, List.setIfInBounds_toArray, List.set_cons_zero, List.set_cons_succ]
                  (refine wpAnyP_takeL (i := 9) (v := ?_) rfl (by kernel_rfl) (by kernel_rfl) (by kernel_rfl) (fun _ _ _ h => h) (by rfl) ?_ ?_; rotate_left 1; focus (intro w; go_simp; try with_reducible rfl))
                  try simp only [Act.put, List.setIfInBounds_toArray, List.set_cons_zero, List.set_cons_succ]
                  (refine wpAnyP_takeL (i := 10) (v := ?_) rfl (by kernel_rfl) (by kernel_rfl) (by kernel_rfl) (fun _ _ _ h => h) (by rfl) ?_ ?_; rotate_left 1; focus (intro w; go_simp; try with_reducible rfl))
                  try simp only [Act.put, List.setIfInBounds_toArray, List.set_cons_zero, List.set_cons_succ]
                  (refine wpAnyP_takeL (i := 11) (v := ?_) rfl (by kernel_rfl) (by kernel_rfl) (by kernel_rfl) (fun _ _ _ h => h) (by rfl) ?_ ?_; rotate_left 1; focus (intro w; go_simp; try with_reducible rfl))
                  try simp only [Act.put, List.setIfInBounds_toArray, List.set_cons_zero, List.set_cons_succ]
                  (refine wpAnyP_loadL (i := 12) (v := ?_) rfl (by kernel_rfl) (by kernel_rfl) (by kernel_rfl) (by rfl) (fun _ _ _ h => h) hF0 (by rfl) ?_ ?_; rotate_left 1; focus (intro w hFw; (try dsimp only at hFw); go_split_ands; go_simp; try with_reducible rfl))
                  try simp only [Act.put, List.setIfInBounds_toArray, List.set_cons_zero, List.set_cons_succ]
                  (refine wpAnyP_takeL (i := 13) (v := ?_) rfl (by kernel_rfl) (by kernel_rfl) (by kernel_rfl) (fun _ _ _ h => h) (by rfl) ?_ ?_; rotate_left 1; focus (intro w; go_simp; try with_reducible rfl))
                  try simp only [Act.put, List.setIfInBounds_toArray, List.set_cons_zero, List.set_cons_succ]
                  (refine wpAnyP_loadL (i := 14) (v := ?_) rfl (by kernel_rfl) (by kernel_rfl) (by kernel_rfl) (by rfl) (fun _ _ _ h => h) hF0 (by rfl) ?_ ?_; rotate_left 1; focus (intro w hFw; (try dsimp only at hFw); go_split_ands; go_simp; try with_reducible rfl))
                  try simp only [Act.put, List.setIfInBounds_toArray, List.set_cons_zero, List.set_cons_succ]
                  (refine wpAnyP_takeL (i := 15) (v := ?_) rfl (by kernel_rfl) (by kernel_rfl) (by kernel_rfl) (fun _ _ _ h => h) (by rfl) ?_ ?_; rotate_left 1; focus (intro w; go_simp; try with_reducible rfl))
                  try simp only [Act.put, List.setIfInBounds_toArray, List.set_cons_zero, List.set_cons_succ]
                  (refine wpAnyP_takeL (i := 16) (v := ?_) rfl (by kernel_rfl) (by kernel_rfl) (by kernel_rfl) (fun _ _ _ h => h) (by rfl) ?_ ?_; rotate_left 1; focus (intro w; go_simp; try with_reducible rfl))
                  try simp only [Act.put, List.setIfInBounds_toArray, List.set_cons_zero, List.set_cons_succ]
                  (refine wpAnyP_takeL (i := 17) (v := ?_) rfl (by kernel_rfl) (by kernel_rfl) (by kernel_rfl) (fun _ _ _ h => h) (by rfl) ?_ ?_; rotate_left 1; focus (intro w; go_simp; try with_reducible rfl))
                  try simp only [Act.put, List.setIfInBounds_toArray, List.set_cons_zero, List.set_cons_succ]
                  (refine wpAnyP_loadL (i := 18) (v := ?_) rfl (by kernel_rfl) (by kernel_rfl) (by kernel_rfl) (by rfl) (fun _ _ _ h => h) hF0 (by rfl) ?_ ?_; rotate_left 1; focus (intro w hFw; (try dsimp only at hFw); go_split_ands; go_simp; try with_reducible rfl))
                  try simp only [Act.put, List.setIfInBounds_toArray, List.set_cons_zero, List.set_cons_succ]
                  (refine wpAnyP_takeL (i := 19) (v := ?_) rfl (by kernel_rfl) (by kernel_rfl) (by kernel_rfl) (fun _ _ _ h => h) (by rfl) ?_ ?_; rotate_left 1; focus (intro w; go_simp; try with_reducible rfl))
                  try simp only [Act.put, List.setIfInBounds_toArray, List.set_cons_zero, List.set_cons_succ]
                  (refine wpAnyP_takeL (i := 20) (v := ?_) rfl (by kernel_rfl) (by kernel_rfl) (by kernel_rfl) (fun _ _ _ h => h) (by rfl) ?_ ?_; rotate_left 1; focus (intro w; go_simp; try with_reducible rfl))
                  try simp only [Act.put, List.setIfInBounds_toArray, List.set_cons_zero, List.set_cons_succ]
                  (refine wpAnyP_takeL (i := 21) (v := ?_) rfl (by kernel_rfl) (by kernel_rfl) (by kernel_rfl) (fun _ _ _ h => h) (by rfl) ?_ ?_; rotate_left 1; focus (intro w; go_simp; try with_reducible rfl))
                  try simp only [Act.put, List.setIfInBounds_toArray, List.set_cons_zero, List.set_cons_succ]
                  (refine wpAnyP_takeL (i := 22) (v := ?_) rfl (by kernel_rfl) (by kernel_rfl) (by kernel_rfl) (fun _ _ _ h => h) (by rfl) ?_ ?_; rotate_left 1; focus (intro w; go_simp; try with_reducible rfl))
                  try simp only [Act.put, List.setIfInBounds_toArray, List.set_cons_zero, List.set_cons_succ]
                  (refine wpAnyP_loadL (i := 23) (v := ?_) rfl (by kernel_rfl) (by kernel_rfl) (by kernel_rfl) (by rfl) (fun _ _ _ h => h) hF0 (by rfl) ?_ ?_; rotate_left 1; focus (intro w hFw; (try dsimp only at hFw); go_split_ands; go_simp; try with_reducible rfl))
                  try simp only [Act.put, List.setIfInBounds_toArray, List.set_cons_zero, List.set_cons_succ]
                  (refine wpAnyP_takeL (i := 24) (v := ?_) rfl (by kernel_rfl) (by kernel_rfl) (by kernel_rfl) (fun _ _ _ h => h) (by rfl) ?_ ?_; rotate_left 1; focus (intro w; go_simp; try with_reducible rfl))
                  try simp only [Act.put, List.setIfInBounds_toArray, List.set_cons_zero, List.set_cons_succ]
                  (refine wpAnyP_loadL (i := 25) (v := ?_) rfl (by kernel_rfl) (by kernel_rfl) (by kernel_rfl) (by rfl) (fun _ _ _ h => h) hF0 (by rfl) ?_ ?_; rotate_left 1; focus (intro w hFw; (try dsimp only at hFw); go_split_ands; go_simp; try with_reducible rfl))
                  try simp only [Act.put, List.setIfInBounds_toArray, List.set_cons_zero, List.set_cons_succ]
                  (refine wpAnyP_takeL (i := 26) (v := ?_) rfl (by kernel_rfl) (by kernel_rfl) (by kernel_rfl) (fun _ _ _ h => h) (by rfl) ?_ ?_; rotate_left 1; focus (intro w; go_simp; try with_reducible rfl))
                  try simp only [Act.put, List.setIfInBounds_toArray, List.set_cons_zero, List.set_cons_succ]
                  (refine wpAnyP_takeL (i := 27) (v := ?_) rfl (by kernel_rfl) (by kernel_rfl) (by kernel_rfl) (fun _ _ _ h => h) (by rfl) ?_ ?_; rotate_left 1; focus (intro w; go_simp; try with_reducible rfl))
                  try simp only [Act.put, List.setIfInBounds_toArray, List.set_cons_zero, List.set_cons_succ]
                  refine wpAnyP_done (by kernel_rfl) ?_ _
                  go_wp2_with fail
                  exact ⟨⟨j + 1, by omega, by go_num, HTj.out.below ((Below.refl wr.heap.size wr).drew), HGj.out.below ((Below.refl wr.heap.size wr).drew)⟩, by simp [intOf]; omega⟩
                · obtain rfl : m = j := by omega
                  have HQm := Lib.hid hQ
                  have HGm := Lib.hid hG
                  clear hQ hG
                  obtain ⟨wo, rfl⟩ : ∃ wo : World, wo = wr := ⟨_, rfl⟩
                  have HOW := Lib.hid (fun b (hb : b ∈ recallT bs ms l) => (show 0 ≤ ownAt (ownOf (bsF bs) l) ms xs b ∧ ownAt (ownOf (bsF bs) l) ms xs b ≤ 8000000 from by
                    obtain ⟨hb0, hb1⟩ := recall_in hb
                    obtain ⟨kb, rfl⟩ := Int.eq_ofNat_of_zero_le hb0
                    have h1 := may_bd HQm.out.law.ni l (k := kb) (by omega)
                    obtain ⟨h2, h3⟩ := way_own (n := 0) HQm.out.law.ni l HWY.out (b := (kb : Int)) hb0 hb1
                    omega))
                  have HALL := Lib.hid (recall_all HQm.out.law.ni HL.out HWY.out)
                  have HGm2 := Lib.hid (And.intro HGm.out.g HGm.out.h)
                  obtain ⟨F, hF⟩ : ∃ F, ownAt (ownOf (bsF bs) l) ms xs = F := ⟨_, rfl⟩
                  rw [hF] at HOW HALL HGm2
                  obtain ⟨R, hR⟩ : ∃ R, recallT bs ms l = R := ⟨_, rfl⟩
                  have HRI := Lib.hid (fun b (hb : b ∈ R) => recall_in (bs := bs) (ms := ms) (l := l) (x := b) (by rw [hR]; exact hb))
                  have HN8 := Lib.hid HN7.out
                  have HRS := Lib.hid (fun (W : World) (h : TQ w W d w3.heap.size b1 b2 b3 b7 bS bA Ab Am Ao A7 AS AA k cb nm cm m bs ms l D) => (show Sl encI 1 W b7 A7 R.length R from by have := h.r; rw [hR] at this; exact this))
                  rw [hR] at HOW HALL HN8
                  clear hF hR HGm
                  go_wp2_with fail
                  go_loopw [22, 23] (fun v i wr => ∃ j : Nat, j ≤ n7 ∧ v = .int .i64 (sm (R.take j) F) ∧ i = .int .i64 j ∧ TQ w wr d w3.heap.size b1 b2 b3 b7 bS bA Ab Am Ao A7 AS AA k cb nm cm m bs ms l D ∧
                    Blk wr w9.heap.size 59 #[.slice AT nm cT, .slice (some ⟨H, 0, none⟩) k k, .slice (some ⟨Dh, 0, none⟩) k k] ∧ RowC wr H ((rg k).map F)) (fun _ i _ => n7 - (intOf i).toNat)
                  case atStart => exact ⟨0, Nat.zero_le _, rfl, rfl, HQm.out, HGm2.out.1, HGm2.out.2⟩
                  case round =>
                    obtain ⟨j, hj, rfl, rfl, hQ, hG, hH⟩ := hrel
                    have hsb := sm_take_bd (f := F) (l := R) (B := 8000000) (by omega) HOW.out j (by have := HN8.out; omega)
                    by_cases hlt4 : j < n7
                    · have hjR : j < R.length := by have := HN8.out; omega
                      have HSM := Lib.hid (sm_take (f := F) R j hjR)
                      have hx := HRI.out R[j] (List.getElem_mem _)
                      have hv := HOW.out R[j] (List.getElem_mem _)
                      obtain ⟨o7, ho7, _, x0⟩ := (HRS.out _ hQ).atI (k := j) hjR
                      subst ho7
                      obtain ⟨f, hf⟩ := Int.eq_ofNat_of_zero_le hx.1
                      have hfk : f < k := by have := HNB.out; omega
                      have z0 := hH.cell (k := f) (by rw [has_len]; exact hfk)
                      rw [has_get hfk, ← hf] at z0
                      have g1 : wr.cell? ⟨w9.heap.size, 1, none⟩ = some (.slice (some ⟨H, 0, none⟩) k k) := hG.cell 1
                      rw [hf] at x0
                      obtain ⟨y, hy⟩ : ∃ y, F R[j] = y := ⟨_, rfl⟩
                      rw [hy] at z0 hv
                      have HY := Lib.hid hy
                      obtain ⟨t, ht⟩ : ∃ t, sm (R.take j) F = t := ⟨_, rfl⟩
                      rw [ht] at hsb ⊢
                      have HTT := Lib.hid ht
                      have j0 : (0 : Int) ≤ (j : Int) := by omega
                      have j1 : (j : Int) < (n7 : Int) := by omega
                      have f0 : (0 : Int) ≤ (f : Int) := by omega
                      have f1 : (f : Int) < (k : Int) := by omega
                      have t0 : 0 ≤ t ∧ t ≤ 64000000 := by omega
                      obtain ⟨t0, t1⟩ := t0
                      obtain ⟨v0, v1⟩ := hv
                      have HQj := Lib.hid hQ
                      have HGj := Lib.hid hG
                      have HHj := Lib.hid hH
                      have HFF := Lib.hid (show wr.cell? ⟨b7, o7 + j, none⟩ = some (.int .i64 f) ∧ wr.cell? ⟨w9.heap.size, 1, none⟩ = some (.slice (some ⟨H, 0, none⟩) k k) ∧ wr.cell? ⟨H, f, none⟩ = some (.int .i64 y) from ⟨x0, g1, z0⟩)
                      have hd1 : decide ((f : Int) < 0) = false := decide_eq_false (by omega)
                      have hd2 : decide ((k : Int) ≤ (f : Int)) = false := decide_eq_false (by omega)
                      clear hf hy ht hsb hQ hG hH x0 g1 z0 hx
                      have HW1 := Lib.hid (show IntKind.i64.wrap (t + y) = t + y from IntWalk.i64_in _ (by omega))
                      go_upto_region 41 with fail
                      refine wp_region_PL [3, 9, 11] (fun W => W.cell? ⟨b7, o7 + j, none⟩ = some (.int .i64 f) ∧ W.cell? ⟨w9.heap.size, 1, none⟩ = some (.slice (some ⟨H, 0, none⟩) k k) ∧ W.cell? ⟨H, f, none⟩ = some (.int .i64 y)) rfl (by kernel_rfl) (HFF.out) (fun hF0 => ?_)
                      (refine wpAnyP_takeL (i := 0) (v := ?_) rfl (by kernel_rfl) (by kernel_rfl) (by kernel_rfl) (fun _ _ _ h => h) (by rfl) ?_ ?_; rotate_left 1; focus (intro w; go_simp; try with_reducible rfl))
                      try simp only [Act.put, List.setIfInBounds_toArray, List.set_cons_zero, List.set_cons_succ]
                      (refine wpAnyP_takeL (i := 1) (v := ?_) rfl (by kernel_rfl) (by kernel_rfl) (by kernel_rfl) (fun _ _ _ h => h) (by rfl) ?_ ?_; rotate_left 1; focus (intro w; go_simp; try with_reducible rfl))
                      try simp only [Act.put, List.setIfInBounds_toArray, List.set_cons_zero, List.set_cons_succ]
                      (refine wpAnyP_takeL (i := 2) (v := ?_) rfl (by kernel_rfl) (by kernel_rfl) (by kernel_rfl) (fun _ _ _ h => h) (by rfl) ?_ ?_; rotate_left 1; focus (intro w; go_simp; try with_reducible rfl))
                      try simp only [Act.put, List.setIfInBounds_toArray, List.set_cons_zero, List.set_cons_succ]
                      (refine wpAnyP_loadL (i := 3) (v := ?_) rfl (by kernel_rfl) (by kernel_rfl) (by kernel_rfl) (by rfl) (fun _ _ _ h => h) hF0 (by rfl) ?_ ?_; rotate_left 1; focus (intro w hFw; (try dsimp only at hFw); go_split_ands; go_simp; try with_reducible rfl))
                      try simp only [Act.put, List.setIfInBounds_toArray, List.set_cons_zero, List.set_cons_succ]
                      (refine wpAnyP_takeL (i := 4) (v := ?_) rfl (by kernel_rfl) (by kernel_rfl) (by kernel_rfl) (fun _ _ _ h => h) (by rfl) ?_ ?_; rotate_left 1; focus (intro w; go_simp; try with_reducible rfl))
                      try simp only [Act.put, List.setIfInBounds_toArray, List.set_cons_zero, List.set_cons_succ]
                      (refine wpAnyP_takeL (i := 5) (v := ?_) rfl (by kernel_rfl) (by kernel_rfl) (by kernel_rfl) (fun _ _ _ h => h) (by rfl) ?_ ?_; rotate_left 1; focus (intro w; go_simp; try with_reducible rfl))
                      try simp only [Act.put, List.setIfInBounds_toArray, List.set_cons_zero, List.set_cons_succ]
                      (refine wpAnyP_takeL (i := 6) (v := ?_) rfl (by kernel_rfl) (by kernel_rfl) (by kernel_rfl) (fun _ _ _ h => h) (by rfl) ?_ ?_; rotate_left 1; focus (intro w; go_simp; try with_reducible rfl))
                      try simp only [Act.put, List.setIfInBounds_toArray, List.set_cons_zero, List.set_cons_succ]
                      (refine wpAnyP_takeL (i := 7) (v := ?_) rfl (by kernel_rfl) (by kernel_rfl) (by kernel_rfl) (fun _ _ _ h => h) (by rfl) ?_ ?_; rotate_left 1; focus (intro w; go_simp; try with_reducible rfl))
                      try simp only [Act.put, List.setIfInBounds_toArray, List.set_cons_zero, List.set_cons_succ]
                      (refine wpAnyP_takeL (i := 8) (v := ?_) rfl (by kernel_rfl) (by kernel_rfl) (by kernel_rfl) (fun _ _ _ h => h) (by rfl) ?_ ?_; rotate_left 1; focus (intro w; go_simp; try with_reducible rfl))
                      try simp only [Act.put, List.setIfInBounds_toArray, List.set_cons_zero, List.set_cons_succ]
                      (refine wpAnyP_loadL (i := 9) (v := ?_) rfl (by kernel_rfl) (by kernel_rfl) (by kernel_rfl) (by rfl) (fun _ _ _ h => h) hF0 (by rfl) ?_ ?_; rotate_left 1; focus (intro w hFw; (try dsimp only at hFw); go_split_ands; go_simp; try with_reducible rfl))
                      try simp only [Act.put, List.setIfInBounds_toArray, List.set_cons_zero, List.set_cons_succ]
                      (refine wpAnyP_takeL (i := 10) (v := ?_) rfl (by kernel_rfl) (by kernel_rfl) (by kernel_rfl) (fun _ _ _ h => h) (by rfl) ?_ ?_; rotate_left 1; focus (intro w; go_simp; try with_reducible rfl))
                      try simp only [Act.put, List.setIfInBounds_toArray, List.set_cons_zero, List.set_cons_succ]
                      (refine wpAnyP_loadL (i := 11) (v := ?_) rfl (by kernel_rfl) (by kernel_rfl) (by kernel_rfl) (by rfl) (fun _ _ _ h => h) hF0 (by rfl) ?_ ?_; rotate_left 1; focus (intro w hFw; (try dsimp only at hFw); go_split_ands; go_simp; try with_reducible rfl))
                      try simp only [Act.put, List.setIfInBounds_toArray, List.set_cons_zero, List.set_cons_succ]
                      (refine wpAnyP_takeL (i := 12) (v := ?_) rfl (by kernel_rfl) (by kernel_rfl) (by kernel_rfl) (fun _ _ _ h => h) (by rfl) ?_ ?_; rotate_left 1; focus (intro w; go_simp; try with_reducible rfl))
                      try simp only [Act.put, List.setIfInBounds_toArray, List.set_cons_zero, List.set_cons_succ]
                      (refine wpAnyP_takeL (i := 13) (v := ?_) rfl (by kernel_rfl) (by kernel_rfl) (by kernel_rfl) (fun _ _ _ h => h) (by rfl) ?_ ?_; rotate_left 1; focus (intro w; go_simp; try with_reducible rfl))
                      try simp only [Act.put, List.setIfInBounds_toArray, List.set_cons_zero, List.set_cons_succ]
                      (refine wpAnyP_takeL (i := 14) (v := ?_) rfl (by kernel_rfl) (by kernel_rfl) (by kernel_rfl) (fun _ _ _ h => h) (by rfl) ?_ ?_; rotate_left 1; focus (intro w; go_simp; try with_reducible rfl))
                      try simp only [Act.put, List.setIfInBounds_toArray, List.set_cons_zero, List.set_cons_succ]
                      refine wpAnyP_done (by kernel_rfl) ?_ _
                      go_upto_region 43 with fail
                      refine wp_region_PL [2, 6, 8] (fun W => W.cell? ⟨b7, o7 + j, none⟩ = some (.int .i64 f) ∧ W.cell? ⟨w9.heap.size, 1, none⟩ = some (.slice (some ⟨H, 0, none⟩) k k) ∧ W.cell? ⟨H, f, none⟩ = some (.int .i64 y)) rfl (by kernel_rfl) (HFF.out) (fun hF0 => ?_)
                      (refine wpAnyP_takeL (i := 0) (v := ?_) rfl (by kernel_rfl) (by kernel_rfl) (by kernel_rfl) (fun _ _ _ h => h) (by rfl) ?_ ?_; rotate_left 1; focus (intro w; go_simp; try with_reducible rfl))
                      try simp only [Act.put, List.setIfInBounds_toArray, List.set_cons_zero, List.set_cons_succ]
                      (refine wpAnyP_takeL (i := 1) (v := ?_) rfl (by kernel_rfl) (by kernel_rfl) (by kernel_rfl) (fun _ _ _ h => h) (by rfl) ?_ ?_; rotate_left 1; focus (intro w; go_simp; try with_reducible rfl))
                      try simp only [Act.put, List.setIfInBounds_toArray, List.set_cons_zero, List.set_cons_succ]
                      (refine wpAnyP_loadL (i := 2) (v := ?_) rfl (by kernel_rfl) (by kernel_rfl) (by kernel_rfl) (by rfl) (fun _ _ _ h => h) hF0 (by rfl) ?_ ?_; rotate_left 1; focus (intro w hFw; (try dsimp only at hFw); go_split_ands; go_simp; try with_reducible rfl))
                      try simp only [Act.put, List.setIfInBounds_toArray, List.set_cons_zero, List.set_cons_succ]
                      (refine wpAnyP_takeL (i := 3) (v := ?_) rfl (by kernel_rfl) (by kernel_rfl) (by kernel_rfl) (fun _ _ _ h => h) (by rfl) ?_ ?_; rotate_left 1; focus (intro w; go_simp; try with_reducible rfl))
                      try simp only [Act.put, List.setIfInBounds_toArray, List.set_cons_zero, List.set_cons_succ]
                      (refine wpAnyP_takeL (i := 4) (v := ?_) rfl (by kernel_rfl) (by kernel_rfl) (by kernel_rfl) (fun _ _ _ h => h) (by rfl) ?_ ?_; rotate_left 1; focus (intro w; go_simp; try with_reducible rfl))
                      try simp only [Act.put, List.setIfInBounds_toArray, List.set_cons_zero, List.set_cons_succ]
                      (refine wpAnyP_takeL (i := 5) (v := ?_) rfl (by kernel_rfl) (by kernel_rfl) (by kernel_rfl) (fun _ _ _ h => h) (by rfl) ?_ ?_; rotate_left 1; focus (intro w; go_simp; try with_reducible rfl))
                      try simp only [Act.put, List.setIfInBounds_toArray, List.set_cons_zero, List.set_cons_succ]
                      (refine wpAnyP_loadL (i := 6) (v := ?_) rfl (by kernel_rfl) (by kernel_rfl) (by kernel_rfl) (by rfl) (fun _ _ _ h => h) hF0 (by rfl) ?_ ?_; rotate_left 1; focus (intro w hFw; (try dsimp only at hFw); go_split_ands; go_simp; try with_reducible rfl))
                      try simp only [Act.put, List.setIfInBounds_toArray, List.set_cons_zero, List.set_cons_succ]
                      (refine wpAnyP_takeL (i := 7) (v := ?_) rfl (by kernel_rfl) (by kernel_rfl) (by kernel_rfl) (fun _ _ _ h => h) (by rfl) ?_ ?_; rotate_left 1; focus (intro w; go_simp; try with_reducible rfl))
                      try simp only [Act.put, List.setIfInBounds_toArray, List.set_cons_zero, List.set_cons_succ]
                      (refine wpAnyP_loadL (i := 8) (v := ?_) rfl (by kernel_rfl) (by kernel_rfl) (by kernel_rfl) (by rfl) (fun _ _ _ h => h) hF0 (by rfl) ?_ ?_; rotate_left 1; focus (intro w hFw; (try dsimp only at hFw); go_split_ands; go_simp; try with_reducible rfl))
                      try simp only [Act.put, List.setIfInBounds_toArray, List.set_cons_zero, List.set_cons_succ]
                      (refine wpAnyP_takeL (i := 9) (v := ?_) rfl (by kernel_rfl) (by kernel_rfl) (by kernel_rfl) (fun _ _ _ h => h) (by rfl) ?_ ?_; rotate_left 1; focus (intro w; go_simp; (first | (rw [HW1.out]) | (with_reducible rfl))))
                      try simp only [Act.put, List.setIfInBounds_toArray, List.set_cons_zero, List.set_cons_succ]
                      (refine wpAnyP_takeL (i := 10) (v := ?_) rfl (by kernel_rfl) (by kernel_rfl) (by kernel_rfl) (fun _ _ _ h => h) (by rfl) ?_ ?_; rotate_left 1; focus (intro w; go_simp; try with_reducible rfl))
                      try simp only [Act.put, List.setIfInBounds_toArray, List.set_cons_zero, List.set_cons_succ]
                      refine wpAnyP_done (by kernel_rfl) ?_ _
                      have HBD := Lib.hid ((Below.refl wr.heap.size wr).drew.drew)
                      go_wp2_with fail
                      exact ⟨⟨j + 1, by omega, by rw [HSM.out, HTT.out, HY.out], by go_num, HQj.out.below HBD.out, HGj.out.below HBD.out HGj.out.lt, HHj.out.oldG HBD.out⟩, by simp [intOf]; omega⟩
                    · obtain rfl : n7 = j := by omega
                      have hGe : sm (R.take n7) F = G := by rw [HN8.out, List.take_length, HALL.out, HGG.out]
                      rw [hGe]
                      have HQz := Lib.hid hQ
                      clear hQ hG hH hsb hGe
                      go_wp2_with fail
                      exact ⟨⟨q + 1, by omega, by go_num, HQz.out⟩, by simp [intOf]; omega⟩
            · obtain rfl : q = 4 := by omega
              go_wp2_with fail
              refine (trailAwake_any _).mono ?_
              rintro e w9 ⟨rfl, hB9⟩
              have HL9 := Lib.hid ((HQq.out.law.below hB9).low)
              clear hB9
              go_wp2_with fail
              go_ret
              exact ⟨rfl, HL9.out⟩
end Go.Proofs.Ytmoolcpogilgkaa
