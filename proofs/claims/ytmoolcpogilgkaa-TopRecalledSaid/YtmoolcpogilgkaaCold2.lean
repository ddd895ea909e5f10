/-
  cold.hours: the ice in a box, hour by hour.
-/
import Derived.Test.YtmoolcpogilgkaaCold1
import Derived.Test.YtmoolcpogilgkaaGoOnQ
import Derived.Test.YtmoolcpogilgkaaTrEdges
import Derived.Shelf.Abstract
import Derived.Shelf.RegionOpen
import Derived.OwnWalkIn
import Derived.TacticsInMore
import Derived.LoopNIn
import Derived.LoopIn
import Derived.Outline
set_option linter.unusedVariables false
set_option linter.unusedSimpArgs false
namespace Go.Proofs.Ytmoolcpogilgkaa
open Go.RowKit Go.Shelf
attribute [local go_sem] Oper.semAt_some

/-- cells that hold no plain numbers -/
def notInt : Obj → Bool
  | .cells _ t _ => t != 3
  | _ => false
/-- what the iterator, and the loop around it, may write -/
def mineQ : Obj → Bool
  | .cells _ t _ => t != 3
  | .loop _ => true
  | .deferred _ => true
  | _ => false
theorem mineQ_rec (o : Obj) (h : isRec o = true) : mineQ o = true := by cases o <;> first | rfl | cases h
/-- what the rounds keep: whatever is older, all cells that hold no plain numbers, the box's number -/
structure KpH (n₀ Bb : Nat) (W W' : World) : Prop where
  k : Kx notInt n₀ W W'
  b : W'.heap[Bb]? = W.heap[Bb]?
theorem KpH.refl (n₀ Bb : Nat) (W : World) : KpH n₀ Bb W W := ⟨Kx.refl _ _, rfl⟩
theorem KpH.trans {n₀ Bb : Nat} {A B C : World} (h : KpH n₀ Bb A B) (k : KpH n₀ Bb B C) : KpH n₀ Bb A C := ⟨h.k.trans k.k, k.b.trans h.b⟩
theorem KpH.of_grown {n₀ Bb : Nat} {A B : World} {row : Option Nat} (h : A.grownBy B row) (hn : n₀ ≤ A.heap.size) (hb : Bb < A.heap.size) (hr : ∀ b, row = some b → n₀ ≤ b ∧ b ≠ Bb ∧ ∀ o, A.heap[b]? = some o → notInt o = false) : KpH n₀ Bb A B :=
  ⟨Kx.of_grown' h hn fun b e => ⟨(hr b e).1, (hr b e).2.2⟩, h.block Bb hb (fun e => (hr Bb e.symm).2.1 rfl)⟩

def hoursT (c : CelT) (box : Nat) : List (Nat × (Int × Int)) := (List.range 240).map fun h => (h, iceA (boxAt c box) box c.fils h)
theorem hoursT_len (c : CelT) (box : Nat) : (hoursT c box).length = 240 := by simp [hoursT]
theorem hoursT_get (c : CelT) (box : Nat) {k : Nat} (hk : k < (hoursT c box).length) : (hoursT c box)[k] = (k, iceA (boxAt c box) box c.fils k) := by simp [hoursT]
theorem hoursT_split (c : CelT) (box : Nat) {k : Nat} (hk : k < 240) : ∃ rest, hoursT c box = (hoursT c box).take k ++ ((k, iceA (boxAt c box) box c.fils k) :: rest) := by
  have h := hoursT_len c box
  refine ⟨(hoursT c box).drop (k + 1), ?_⟩
  rw [← hoursT_get c box (by omega), List.getElem_cons_drop, List.take_append_drop]
theorem hoursT_snoc (c : CelT) (box : Nat) {k : Nat} (hk : k < 240) : (hoursT c box).take (k + 1) = (hoursT c box).take k ++ [(k, iceA (boxAt c box) box c.fils k)] := by
  have h := hoursT_len c box
  rw [List.take_succ_eq_append_getElem (by omega), hoursT_get]
def hourV (x : Nat × (Int × Int)) : Array Value := #[.int .i64 (x.1 : Int), iceV x.2]

theorem hours_any (p : CelP) (c : CelT) (box : Int) (w : World) :
    Calls Try.prog 45 #[.agg (celA p c), .int .i64 box] w fun e w' => e = .returned (.func (.func 69) #[] #[.pointer (some ⟨w.heap.size, 0, none⟩), .pointer (some ⟨w.heap.size + 1, 0, none⟩)]) ∧
      w' = (w.alloc (.cells (celA p c) 37)).alloc (.cells #[.int .i64 box] 3) := by
  go_enter Try.func45, Try.ntmps45
  go_wp2
  go_ret
  exact ⟨rfl, rfl⟩

theorem grown_cellH (W : World) (p : Addr) (u : Value) : W.grownBy (W.setCell p u) (some p.block) := only_setCell (only_refl W _) (.inl rfl) u
theorem stoCells {w : World} {g : Nat} {b : BoxT} {q : Int × Int} (h : Blk w g 145 (stoA b q)) :
    w.cell? ⟨g, 0, none⟩ = some (.int .i64 b.room) ∧ w.cell? ⟨g, 1, none⟩ = some (.int .i64 b.ilo) ∧ w.cell? ⟨g, 2, none⟩ = some (.int .i64 b.ihi) ∧ w.cell? ⟨g, 3, none⟩ = some (.int .i64 b.mlo) ∧ w.cell? ⟨g, 4, none⟩ = some (.int .i64 b.mhi) ∧ w.cell? ⟨g, 5, none⟩ = some (.int .i64 b.clo) ∧ w.cell? ⟨g, 6, none⟩ = some (.int .i64 b.chi) ∧ w.cell? ⟨g, 7, none⟩ = some (.int .i64 b.wlo) ∧ w.cell? ⟨g, 8, none⟩ = some (.int .i64 b.whi) ∧ w.cell? ⟨g, 9, none⟩ = some (.int .i64 q.1) ∧ w.cell? ⟨g, 10, none⟩ = some (.int .i64 q.2) :=
  ⟨h.cell 0, h.cell 1, h.cell 2, h.cell 3, h.cell 4, h.cell 5, h.cell 6, h.cell 7, h.cell 8, h.cell 9, h.cell 10⟩
/-- between two hours -/
structure HrSt (n₀ Bb : Nat) (J : List (Nat × (Int × Int)) → World → Prop) (c : CelT) (box : Nat) (b : BoxT) (W : World) (Bs : Nat) (k : Nat) (q : Int × Int) (wr : World) : Prop where
  j : J ((hoursT c box).take k) wr
  k : KpH n₀ Bb W wr
  s : Blk wr Bs 145 (stoA b q)
theorem KpH.new {n₀ Bb : Nat} {A B C : World} {row : Option Nat} (h : KpH n₀ Bb A B) (hg : B.grownBy C row) (hr : ∀ r, row = some r → A.heap.size ≤ r) (hn : n₀ ≤ A.heap.size) (hb : Bb < A.heap.size) : KpH n₀ Bb A C :=
  ⟨h.k.row hg hr hn, (hg.block Bb (Nat.lt_of_lt_of_le hb h.k.size) (fun e => by have := hr Bb e.symm; omega)).trans h.b⟩
section
variable {n₀ Bb Bs box k : Nat} {J : List (Nat × (Int × Int)) → World → Prop} {c : CelT} {b : BoxT} {W wr wr' : World} {q : Int × Int}
theorem HrSt.free (h : HrSt n₀ Bb J c box b W Bs k q wr) (hJ : AbidesQ mineQ W.heap.size J) (hn : n₀ ≤ W.heap.size) (hb : Bb < W.heap.size) (hg : wr.grownBy wr' none) : HrSt n₀ Bb J c box b W Bs k q wr' :=
  ⟨hJ _ _ _ none h.j hg (fun _ e => by cases e), h.k.new hg (fun _ e => by cases e) hn hb, h.s.grown hg (fun e => by cases e)⟩
theorem HrSt.alloc (h : HrSt n₀ Bb J c box b W Bs k q wr) (hJ : AbidesQ mineQ W.heap.size J) (hn : n₀ ≤ W.heap.size) (hb : Bb < W.heap.size) (o : Obj) : HrSt n₀ Bb J c box b W Bs k q (wr.alloc o) := h.free hJ hn hb (World.grownBy_alloc wr o none)
theorem HrSt.below (h : HrSt n₀ Bb J c box b W Bs k q wr) (hJ : AbidesQ mineQ W.heap.size J) (hn : n₀ ≤ W.heap.size) (hb : Bb < W.heap.size) (hB : Below wr.heap.size wr wr') : HrSt n₀ Bb J c box b W Bs k q wr' := h.free hJ hn hb ⟨hB.os, hB.tape, hB.output, hB.size, fun i hi _ => hB.block i hi⟩
theorem HrSt.ice (h : HrSt n₀ Bb J c box b W Bs k q wr) (hJ : AbidesQ mineQ W.heap.size J) (hn : n₀ ≤ W.heap.size) (hb : Bb < W.heap.size) (hs : W.heap.size ≤ Bs) (u : Int × Int) : HrSt n₀ Bb J c box b W Bs k u ((wr.setCell ⟨Bs, 9, none⟩ (.int .i64 u.1)).setCell ⟨Bs, 10, none⟩ (.int .i64 u.2)) := by
  have h1 : Blk (wr.setCell ⟨Bs, 9, none⟩ (.int .i64 u.1)) Bs 145 (stoA b (u.1, q.2)) := h.s.set_ 9 (.int .i64 u.1)
  have h2 : Blk ((wr.setCell ⟨Bs, 9, none⟩ (.int .i64 u.1)).setCell ⟨Bs, 10, none⟩ (.int .i64 u.2)) Bs 145 (stoA b u) := h1.set_ 10 (.int .i64 u.2)
  refine ⟨hJ _ _ _ _ (hJ _ _ _ _ h.j (grown_cellH wr ⟨Bs, 9, none⟩ _) fun r e => ?_) (grown_cellH _ ⟨Bs, 10, none⟩ _) fun r e => ?_, (h.k.new (grown_cellH wr ⟨Bs, 9, none⟩ _) (fun r e => by cases e; exact hs) hn hb).new (grown_cellH _ ⟨Bs, 10, none⟩ _) (fun r e => by cases e; exact hs) hn hb, h2⟩
  · cases e; exact ⟨hs, _, h.s, rfl⟩
  · cases e; exact ⟨hs, _, h1, rfl⟩
theorem HrSt.next (h : HrSt n₀ Bb J c box b W Bs k q wr) (hj : J ((hoursT c box).take (k + 1)) wr') (hk : KpH n₀ Bb wr wr') : HrSt n₀ Bb J c box b W Bs (k + 1) q wr' := ⟨hj, h.k.trans hk, hk.k.rest _ _ h.s rfl⟩
end
theorem info_box : (Try.prog.info? 74).map (·.size) = some 9 := by kernel_rfl

set_option maxRecDepth 100000 in
set_option maxHeartbeats 4000000 in
theorem hours1_in (m L Bc Bb n₀ : Nat) (p : CelP) (c : CelT) (box : Nat) (J : List (Nat × (Int × Int)) → World → Prop) (W : World) (hc : CelOk c) (hbx : box < c.boxes.length)
    (hn₀ : n₀ ≤ W.heap.size) (h1n : p.bb < n₀) (h2n : 0 < p.nf → p.bf < n₀) (hJ : AbidesQ mineQ W.heap.size J)
    (hY : ∀ pre x rest W1, hoursT c box = pre ++ x :: rest → J pre W1 → YieldAt Fence.wide (m - 1) Try.prog L (hourV x) W1 fun e W' => e = .returned (.bool true) ∧ J (pre ++ [x]) W' ∧ KpH n₀ Bb W1 W')
    (hBc : Blk W Bc 37 (celA p c)) (hBb : Blk W Bb 3 #[.int .i64 box]) (hM : CelM W p c) (h0 : J [] W) :
    CallsIn Fence.wide m Try.prog 69 #[.func (.yield L) #[] #[], .pointer (some ⟨Bc, 0, none⟩), .pointer (some ⟨Bb, 0, none⟩)] W fun e W' => (∃ v, e = .returned v) ∧ J (hoursT c box) W' := by
  have hro : Fence.wide.round = none := rfl
  have c2 : W.cell? ⟨Bc, 2, none⟩ = some (.slice p.Ab p.nb p.cb) := hBc.cell 2
  have d0 : W.cell? ⟨Bb, 0, none⟩ = some (.int .i64 box) := hBb.cell 0
  obtain ⟨o, ho, hbz, hx9⟩ := hM.b.atBx hbx
  have hnb : box < p.nb := by have := hM.b.len; omega
  have hbe : c.boxes[box] = boxAt c box := by unfold boxAt; simp [List.getD_eq_getElem?_getD, hbx]
  rw [hbe] at hx9
  have hbok : BoxOk (boxAt c box) := by rw [← hbe]; exact hc.bs _ (List.getElem_mem hbx)
  obtain ⟨b, hb⟩ : ∃ b, b = boxAt c box := ⟨_, rfl⟩
  rw [← hb] at hx9 hbok
  have x0 : W.cell? ⟨p.bb, o + box * 9, none⟩ = some (.int .i64 b.room) := by simpa using hx9 0 _ rfl
  have x1 := hx9 1 _ rfl
  have x2 := hx9 2 _ rfl
  have x3 := hx9 3 _ rfl
  have x4 := hx9 4 _ rfl
  have x5 := hx9 5 _ rfl
  have x6 := hx9 6 _ rfl
  have x7 := hx9 7 _ rfl
  have x8 := hx9 8 _ rfl
  have HJ := Lib.hid hJ
  have HY := Lib.hid hY
  have HM := Lib.hid hM
  have HC := Lib.hid hc
  have HBC := Lib.hid hBc
  have HBB := Lib.hid hBb
  have H0 := Lib.hid h0
  have HB := Lib.hid hb
  have HBO := Lib.hid hbok
  have ib0 : (0 : Int) ≤ (box : Int) := by omega
  have ib1 : (box : Int) < (p.nb : Int) := by omega
  clear hJ hY hM hc hBc hBb h0 hb hbok hx9 hbe
  refine callsIn_of_wp Try.func69 rfl trivial ?_ hro
  simp only [Try.ntmps69, List.size_toArray, List.length_cons, List.length_nil, Nat.reduceAdd, Nat.reduceSub, Array.replicate_succ, Array.replicate_zero, List.push_toArray, List.append_toArray, List.nil_append, List.cons_append]
  rw [ho] at c2
  have hbW := HBB.out.lt
  have hS0 : HrSt n₀ Bb J c box b W (W.heap.size + 1) 0 (b.ilo, b.ihi) ((W.alloc (.cells (encBx b).toArray 74)).alloc (.cells (stoA b (b.ilo, b.ihi)) 145)) := by
    have h1 := World.grownBy_alloc W (.cells (encBx b).toArray 74) none
    have h2 := World.grownBy_alloc (W.alloc (.cells (encBx b).toArray 74)) (.cells (stoA b (b.ilo, b.ihi)) 145) none
    refine ⟨HJ.out _ _ _ none (HJ.out _ _ _ none H0.out h1 (fun _ e => by cases e)) h2 (fun _ e => by cases e), ((KpH.refl n₀ Bb W).new h1 (fun _ e => by cases e) hn₀ hbW).new h2 (fun _ e => by cases e) hn₀ hbW, ?_⟩
    have := Blk.new (W.alloc (.cells (encBx b).toArray 74)) 145 (stoA b (b.ilo, b.ihi))
    rwa [World.size_alloc] at this
  have HS0 := Lib.hid hS0
  clear hS0
  gi_wp2
  clear c2 d0 x0 x1 x2 x3 x4 x5 x6 x7 x8 hbz ho
  gi_loopw [23] (fun i wr => ∃ k : Nat, k ≤ 240 ∧ i = .int .i64 k ∧ HrSt n₀ Bb J c box b W (W.heap.size + 1) k (iceS b box c.fils k) wr) (fun i _ => 240 - (intOf i).toNat)
  case atStart => exact ⟨0, Nat.zero_le _, rfl, HS0.out⟩
  case round =>
    obtain ⟨k, hk, rfl, hS⟩ := hrel
    have HS := Lib.hid hS
    clear hS
    by_cases hlt : k < 240
    · have c3 : wr.cell? ⟨Bc, 3, none⟩ = some (.slice p.Af p.nf p.cf) := (show Blk wr Bc 37 (celA p c) from HS.out.k.k.rest _ _ HBC.out rfl).cell 3
      have hsz := HS.out.k.k.size
      have hd240 : decide ((k : Int) < 240) = true := by simp; omega
      gi_wp2
      obtain ⟨wo, rfl⟩ : ∃ wo : World, wo = wr := ⟨_, rfl⟩
      clear c3
      gi_loopw [29] (fun i wr => ∃ j : Nat, j ≤ p.nf ∧ i = .int .i64 j ∧ HrSt n₀ Bb J c box b W (W.heap.size + 1) k (fillI b.room box k (c.fils.take j) (iceS b box c.fils k)) wr) (fun i _ => p.nf - (intOf i).toNat)
      case atStart => exact ⟨0, Nat.zero_le _, rfl, by simpa [fillI] using HS.out⟩
      case round =>
        obtain ⟨j, hj, rfl, hS⟩ := hrel
        have HS2 := Lib.hid hS
        clear hS
        have HFL := Lib.hid HM.out.f.len
        have hnf20 : p.nf ≤ 20 := by have := HFL.out; have := HC.out.fn; omega
        by_cases hjl : j < p.nf
        · have hjf : j < c.fils.length := by have := HFL.out; omega
          obtain ⟨o2, ho2, hbz2, s0, s1, s2⟩ := (HM.out.f.keep (w' := wr) (fun h => HS2.out.k.k.below p.bf (h2n h)) HS2.out.k.k.size).atFl hjf
          have HFT := Lib.hid (fillI_take b.room box k c.fils j hjf (iceS b box c.fils k))
          have hfok := HC.out.fs _ (List.getElem_mem hjf)
          generalize c.fils[j] = f at s0 s1 s2 HFT hfok
          have hbb : wr.cell? ⟨Bb, 0, none⟩ = some (.int .i64 box) := (show Blk wr Bb 3 #[.int .i64 box] from HS2.out.k.b.trans HBB.out).cell 0
          have HS3 := Lib.hid (HS2.out.alloc HJ.out hn₀ hbW (.cells #[.int .i64 f.box, .int .i64 f.hour, .int .i64 f.grams] 76))
          obtain ⟨q, hq⟩ : ∃ q, q = fillI b.room box k (c.fils.take j) (iceS b box c.fils k) := ⟨_, rfl⟩
          rw [← hq] at HS3 HFT
          have hqb := fillI_bd HBO.out box k (c.fils.take j) (fun f hf => HC.out.fs f (List.mem_of_mem_take hf)) _ (iceS_bd HBO.out box HC.out.fs k)
          rw [← hq] at hqb
          have hroom := HBO.out.r
          have hgr := hfok.g
          rw [ho2]
          have ho0 : (0 : Int) ≤ (j : Int) := by omega
          have ho1 : (j : Int) < (p.nf : Int) := by omega
          clear hq ho2 hfok
          have hbb2 : (wr.alloc (.cells #[.int .i64 f.box, .int .i64 f.hour, .int .i64 f.grams] 76)).cell? ⟨Bb, 0, none⟩ = some (.int .i64 box) := (show Blk _ Bb 3 #[.int .i64 box] from HS3.out.k.b.trans HBB.out).cell 0
          by_cases hfb : f.box = box
          · have e1 : (f.box == (box : Int)) = true := by simp [hfb]
            by_cases hfh : f.hour = k
            · have e2 : (f.hour == (k : Int)) = true := by simp [hfh]
              have HQ := Lib.hid (show fillI b.room box k (c.fils.take (j + 1)) (iceS b box c.fils k) = putI b.room f.grams q by rw [HFT.out, if_pos ⟨hfb, hfh⟩])
              clear hfb hfh
              obtain ⟨y0, y1, y2, y3, y4, y5, y6, y7, y8, y9, y10⟩ := stoCells HS3.out.s
              gi_wp2
              refine ⟨trivial, fun h => by simp [Fence.wide] at h, ?_⟩
              refine (callsIn_wide.2 (put_any b q f.grams _ (by omega) (by omega) (by omega) (by omega))).mono ?_
              rintro e w5 ⟨rfl, hb5⟩
              have HS5 := Lib.hid (HS3.out.below HJ.out hn₀ hbW hb5)
              obtain ⟨_, _, _, _, _, _, _, _, _, g9, g10⟩ := stoCells HS5.out.s
              have f9 := HS5.out.s.frozen 9
              have f10 := HS5.out.s.frozen 10
              obtain ⟨u, hu⟩ : ∃ u, u = putI b.room f.grams q := ⟨_, rfl⟩
              rw [← hu] at HQ ⊢
              have HS6 := Lib.hid (HS5.out.ice HJ.out hn₀ hbW (by omega) u)
              unfold iceV
              clear y0 y1 y2 y3 y4 y5 y6 y7 y8 y9 y10 hb5 hu s0 s1 s2
              gi_wp2
              go_roundw
              case rel => exact ⟨j + 1, by omega, by go_num, by rw [HQ.out]; exact HS6.out⟩
              case measure => simp [intOf]; omega
            · have e2 : (f.hour == (k : Int)) = false := by rw [beq_eq_false_iff_ne]; exact hfh
              have HQ := Lib.hid (show fillI b.room box k (c.fils.take (j + 1)) (iceS b box c.fils k) = q by rw [HFT.out, if_neg (fun h => hfh h.2)])
              clear hfb hfh
              gi_wp2
              go_roundw
              case rel => exact ⟨j + 1, by omega, by go_num, by rw [HQ.out]; exact HS3.out⟩
              case measure => simp [intOf]; omega
          · have e1 : (f.box == (box : Int)) = false := by rw [beq_eq_false_iff_ne]; exact hfb
            have HQ := Lib.hid (show fillI b.room box k (c.fils.take (j + 1)) (iceS b box c.fils k) = q by rw [HFT.out, if_neg (fun h => hfb h.1)])
            clear hfb
            gi_wp2
            go_roundw
            case rel => exact ⟨j + 1, by omega, by go_num, by rw [HQ.out]; exact HS3.out⟩
            case measure => simp [intOf]; omega
        · have HQ := Lib.hid (show fillI b.room box k (c.fils.take j) (iceS b box c.fils k) = iceA b box c.fils k by rw [List.take_of_length_le (by have := HFL.out; omega)]; rfl)
          have hab := iceA_bd HBO.out box HC.out.fs k
          have HNX := Lib.hid (iceS_next b box c.fils k)
          have HSN := Lib.hid (hoursT_snoc c box hlt)
          obtain ⟨rest, hsp⟩ := hoursT_split c box hlt
          rw [← HB.out] at HSN hsp
          have HS3 := Lib.hid (show HrSt n₀ Bb J c box b W (W.heap.size + 1) k (iceA b box c.fils k) wr by rw [← HQ.out]; exact HS2.out)
          obtain ⟨q, hq⟩ : ∃ q, q = iceA b box c.fils k := ⟨_, rfl⟩
          rw [← hq] at hab HNX HSN hsp HS3
          clear hq
          have hroom := HBO.out.r
          have hmm := HBO.out.m
          obtain ⟨fn, tmps, assign, body, hy, hR⟩ := HY.out _ _ _ wr hsp HS3.out.j
          dsimp only [hourV, iceV] at hy
          have HR := Lib.hid hR
          obtain ⟨_, _, _, _, _, _, _, _, _, y9, y10⟩ := stoCells HS3.out.s
          clear hR hsp
          gi_wp2
          refine ⟨fun h => by simp [Fence.wide] at h, HR.out.mono ?_⟩
          rintro e W3 ⟨rfl, hJ3, hk3⟩
          have HS4 := Lib.hid (HS3.out.next (by rw [HSN.out]; exact hJ3) hk3)
          obtain ⟨z0, z1, z2, z3, z4, z5, z6, z7, z8, z9, z10⟩ := stoCells HS4.out.s
          clear hJ3 hk3 y9 y10 hy HR
          gi_wp2
          refine ⟨trivial, fun h => by simp [Fence.wide] at h, ?_⟩
          refine (callsIn_wide.2 (melted_any b q _ (by omega) (by omega) (by omega))).mono ?_
          rintro e w5 ⟨rfl, hb5⟩
          have HS5 := Lib.hid (HS4.out.below HJ.out hn₀ hbW hb5)
          obtain ⟨_, _, _, _, _, _, _, _, _, g9, g10⟩ := stoCells HS5.out.s
          have f9 := HS5.out.s.frozen 9
          have f10 := HS5.out.s.frozen 10
          obtain ⟨u, hu⟩ : ∃ u, u = meltI b q := ⟨_, rfl⟩
          have HUU := Lib.hid (show iceS b box c.fils (k + 1) = u by rw [HNX.out, hu])
          rw [← hu]
          have HS6 := Lib.hid (HS5.out.ice HJ.out hn₀ hbW (by omega) u)
          unfold iceV
          clear z0 z1 z2 z3 z4 z5 z6 z7 z8 z9 z10 hb5 hu
          gi_wp2
          go_roundw
          case rel => exact ⟨k + 1, by omega, by go_num, by rw [HUU.out]; exact HS6.out⟩
          case measure => simp [intOf]; omega
    · obtain rfl : k = 240 := by omega
      have HE := Lib.hid (show (hoursT c box).take 240 = hoursT c box from List.take_of_length_le (by rw [hoursT_len]; omega))
      gi_wp2
      go_end0
      exact ⟨⟨_, rfl⟩, by rw [← HE.out]; exact HS.out.j⟩

theorem hours_hands (m Bc Bb n₀ : Nat) (p : CelP) (c : CelT) (box : Nat) (w : World) (hc : CelOk c) (hbx : box < c.boxes.length) (hn₀ : n₀ ≤ w.heap.size) (h1n : p.bb < n₀) (h2n : 0 < p.nf → p.bf < n₀)
    (hBc : Blk w Bc 37 (celA p c)) (hBb : Blk w Bb 3 #[.int .i64 box]) (hM : CelM w p c) :
    HandsQ mineQ Fence.wide m Try.prog 69 #[.pointer (some ⟨Bc, 0, none⟩), .pointer (some ⟨Bb, 0, none⟩)] hourV (KpH n₀ Bb) (hoursT c box) w := fun L J W hW hJ hY h0 =>
  hours1_in m L Bc Bb n₀ p c box J W hc hbx (Nat.le_trans hn₀ hW.size) h1n h2n hJ hY (hBc.below hW hBc.lt) (hBb.below hW hBb.lt) (hM.old hW) h0
end Go.Proofs.Ytmoolcpogilgkaa
