/-
  trace.edges: the ways of goods while the first moves are done, one after the other.
-/
import Derived.Test.YtmoolcpogilgkaaTrArr
import Derived.Test.YtmoolcpogilgkaaGoOn
import Derived.Shelf.Abstract
import Derived.Shelf.RegionOpen
import Derived.OwnWalkIn
import Derived.TacticsInMore
import Derived.LoopNIn
import Derived.LoopIn
import Derived.Outline
set_option linter.unusedVariables false
set_option linter.unusedSimpArgs false
namespace Go.Proofs.Ytmoolcpogilgkaa
open Go.RowKit Go.Shelf
attribute [local go_sem] Oper.semAt_some

abbrev ndP (b t : Int) : Pl := (b, t)
abbrev Edge := Pl × Pl × Int
abbrev edgeV (e : Edge) : Array Value := #[.agg #[.int .i64 e.1.1, .int .i64 e.1.2, .int .i64 e.2.1.1, .int .i64 e.2.1.2, .int .i64 e.2.2]]

theorem Sl.atM {w : World} {b n : Nat} {A : Option Addr} {l : List Mv} (h : Sl encM 3 w b A n l) {k : Nat} (hk : k < l.length) :
    ∃ o, A = some ⟨b, o, none⟩ ∧ b < w.heap.size ∧ w.cell? ⟨b, o + k * 3, none⟩ = some (.int .i64 l[k].fr) ∧ w.cell? ⟨b, o + k * 3 + 1, none⟩ = some (.int .i64 l[k].to) ∧ w.cell? ⟨b, o + k * 3 + 2, none⟩ = some (.int .i64 l[k].g) := by
  obtain ⟨o, h1, h2, h3⟩ := h.at_ hk
  exact ⟨o, h1, h2, h3 0 _ rfl, h3 1 _ rfl, h3 2 _ rfl⟩

/-- a net in memory -/
structure NetM (w : World) (b1 b2 : Nat) (Ab Am : Option Addr) (nb cb nm cm : Nat) (bs : List Int) (ms : List Mv) : Prop where
  b : Sl encI 1 w b1 Ab nb bs
  m : Sl encM 3 w b2 Am nm ms
  cb : nb ≤ cb
  cm : nm ≤ cm
abbrev netV (Ab Am : Option Addr) (nb cb nm cm : Nat) : Value := .agg #[.slice Ab nb cb, .slice Am nm cm]

/-- one layer of ways -/
def lay1 (n : Nat) (a : Int → Int) (t : Nat) (m : Mv) : List Edge := (rg n).map fun b => (ndP b t, ndP b (t + 1 : Nat), stay a m b)
theorem eLay_snoc (n : Nat) (a : Int → Int) (t : Nat) (l : List Mv) (m : Mv) :
    eLay ndP n a t (l ++ [m]) = eLay ndP n a t l ++ ((ndP m.fr (t + l.length : Nat), ndP m.to (t + l.length + 1 : Nat), m.g) :: lay1 n (hasAt a l) (t + l.length) m) := by
  induction l generalizing a t with
  | nil => simp [eLay, hasAt, lay1]
  | cons x l ih =>
    have e : t + 1 + l.length = t + (l.length + 1) := by omega
    simp only [List.cons_append, eLay, ih, hasAt, List.length_cons, List.append_assoc, List.cons_append, e]
theorem eLay_split (n : Nat) (a : Int → Int) (l : List Mv) (k : Nat) (hk : k < l.length) :
    ∃ rest, eLay ndP n a 0 l = eLay ndP n a 0 (l.take k) ++ ((ndP l[k].fr (k : Nat), ndP l[k].to (k + 1 : Nat), l[k].g) :: (lay1 n (hasAt a (l.take k)) k l[k] ++ rest)) := by
  have h1 : ∀ (l' : List Mv) (a : Int → Int) (t : Nat) (p : List Mv), ∃ r, eLay ndP n a t (p ++ l') = eLay ndP n a t p ++ r := by
    intro l' a t p
    induction p generalizing a t with
    | nil => exact ⟨_, rfl⟩
    | cons x p ih =>
      obtain ⟨r, hr⟩ := ih (mvd a x) (t + 1)
      exact ⟨r, by simp only [List.cons_append, eLay, hr, List.append_assoc]⟩
  obtain ⟨r, hr⟩ := h1 (l.drop (k + 1)) a 0 (l.take (k + 1))
  rw [List.take_append_drop] at hr
  refine ⟨r, ?_⟩
  rw [hr, List.take_succ_eq_append_getElem hk, eLay_snoc, List.length_take, Nat.min_eq_left (by omega)]
  simp
theorem lay1_split (n : Nat) (a : Int → Int) (t : Nat) (m : Mv) (j : Nat) (hj : j < n) :
    ∃ rest, lay1 n a t m = (lay1 n a t m).take j ++ ((ndP j t, ndP j (t + 1 : Nat), stay a m j) :: rest) := by
  have hl : j < (lay1 n a t m).length := by simp [lay1, rg]; exact hj
  refine ⟨(lay1 n a t m).drop (j + 1), ?_⟩
  have e : (lay1 n a t m)[j] = (ndP j t, ndP j (t + 1 : Nat), stay a m j) := by simp [lay1, rg]
  rw [← e, List.getElem_cons_drop, List.take_append_drop]
theorem lay1_len (n : Nat) (a : Int → Int) (t : Nat) (m : Mv) : (lay1 n a t m).length = n := by simp [lay1, rg]
theorem lay1_snoc (n : Nat) (a : Int → Int) (t : Nat) (m : Mv) (j : Nat) (hj : j < n) : (lay1 n a t m).take (j + 1) = (lay1 n a t m).take j ++ [(ndP j t, ndP j (t + 1 : Nat), stay a m j)] := by
  have hl : j < (lay1 n a t m).length := by rw [lay1_len]; exact hj
  have e : (lay1 n a t m)[j] = (ndP j t, ndP j (t + 1 : Nat), stay a m j) := by simp [lay1, rg]
  rw [List.take_succ_eq_append_getElem hl, e]

theorem hasAt_out {n : Nat} {a : Int → Int} {l : List Mv} (h : OkMs n a l) {b : Int} (hb : b < 0 ∨ (n : Int) ≤ b) : hasAt a l b = a b := by
  induction l generalizing a with
  | nil => rfl
  | cons m l ih =>
    show hasAt (mvd a m) l b = a b
    rw [ih h.2]
    have h0 := h.1.f0; have h1 := h.1.f1; have h2 := h.1.t0; have h3 := h.1.t1
    unfold mvd
    rw [if_neg (by omega), if_neg (by omega)]; omega
theorem NetIn.has_bd {bs : List Int} {ms : List Mv} (h : NetIn bs ms) (k : Nat) (b : Int) : 0 ≤ hasAt (bsF bs) (ms.take k) b ∧ hasAt (bsF bs) (ms.take k) b ≤ 8000000 := by
  have hm := h.ms.take k
  refine ⟨hm.nonneg h.pos b, ?_⟩
  by_cases hb : 0 ≤ b ∧ b < bs.length
  · have h3 := sm_ge_one (l := rg bs.length) (f := hasAt (bsF bs) (ms.take k)) (fun b _ => hm.nonneg h.pos b) (mem_rg.2 hb)
    rw [sm_hasAt hm] at h3
    have := h.sum
    omega
  · rw [hasAt_out hm (by omega)]
    have := (bsF_in h.gr b).2
    omega
theorem NetIn.at_ {bs : List Int} {ms : List Mv} (h : NetIn bs ms) {k : Nat} (hk : k < ms.length) : OkM bs.length (hasAt (bsF bs) (ms.take k)) ms[k] := by
  have e : ms = ms.take k ++ ms[k] :: ms.drop (k + 1) := by rw [List.getElem_cons_drop, List.take_append_drop]
  have h1 := h.ms
  rw [e] at h1
  exact (OkMs.append.1 h1).2.1
theorem hasAt_snoc (a : Int → Int) (l : List Mv) (m : Mv) : hasAt a (l ++ [m]) = mvd (hasAt a l) m := by rw [hasAt_append]; rfl
/-- between two layers -/
structure EdSt (n₀ : Nat) (J : List Edge → World → Prop) (bs : List Int) (ms : List Mv) (W : World) (Ba : Nat) (k : Nat) (wr : World) : Prop where
  j : J (eLay ndP bs.length (bsF bs) 0 (ms.take k)) wr
  kc : Kd n₀ W wr
  a : Blk wr Ba 120 (amA (hasAt (bsF bs) (ms.take k)))
  sz : Ba < wr.heap.size
/-- between two ways of a layer -/
structure EdIn (n₀ : Nat) (J : List Edge → World → Prop) (bs : List Int) (ms : List Mv) (W : World) (Ba Bm : Nat) (k : Nat) (m : Mv) (j : Nat) (wr : World) : Prop where
  j : J (eLay ndP bs.length (bsF bs) 0 (ms.take k) ++ ((ndP m.fr (k : Nat), ndP m.to (k + 1 : Nat), m.g) :: (lay1 bs.length (hasAt (bsF bs) (ms.take k)) k m).take j)) wr
  kc : Kd n₀ W wr
  a : Blk wr Ba 120 (amA (hasAt (bsF bs) (ms.take k)))
  m : Blk wr Bm 70 #[.int .i64 m.fr, .int .i64 m.to, .int .i64 m.g]

section
variable {F : Fence} {nF : Nat} {P : Program} {w : World} {ops : Array Oper} {rest : List Oper} {o : Oper} {a : Act} {Q : Exit → Act → World → Prop}
theorem wpListIn_load_row (hgd : o.guard = none) (ty : TypeId) (x : Operand) (hop : o.op = .load ty x)
    (g : Nat) (hx : a.eval x = .pointer (some ⟨g, 0, none⟩)) (t : TypeId) (cs : Array Value) (fr : Nat × Nat) (d : TypeDesc) (hg : w.heap[g]? = some (.cells cs t fr))
    (hu : P.underlying ty = some d) (hd : (match d with | .struct _ | .array _ _ => true | _ => false) = true) (hi : (P.info? ty).map (·.size) = some cs.size)
    (h : wpListIn F nF P ops Q rest (a.put o.dst (.agg cs)) w) : wpListIn F nF P ops Q (o :: rest) a w := by
  refine wpListIn_plain hgd fun K' hK' => ?_
  unfold Oper.wpIn
  refine ⟨by simp [Oper.about, hop], ?_⟩
  rw [Oper.semAt_plain F _ _ (by rw [hop]; intro c hc'; cases hc')]
  unfold execOp
  simp only [hop, hx, Instr.loadAt, Instr.sureAddr, Sem.run_bind, Sem.run_pure, Result.andThen_ok, run_loadVar_row w g t ty cs fr d hg hu hd hi]
  exact hK' _ _ h
theorem wpListIn_store_row (hgd : o.guard = none) (ty : TypeId) (x y : Operand) (hop : o.op = .store ty x y)
    (g : Nat) (cells : Array Value) (hx : a.eval x = .pointer (some ⟨g, 0, none⟩)) (hy : a.eval y = .agg cells)
    (t : TypeId) (old : Array Value) (hg : w.heap[g]? = some (.cells old t (0, 0))) (hi : (P.info? ty).map (·.size) = some cells.size)
    (hold : old.size = cells.size) (h1 : cells.all (·.oneCell') = true)
    (h : wpListIn F nF P ops Q rest (a.put o.dst undef) (w.setRow g cells)) : wpListIn F nF P ops Q (o :: rest) a w := by
  refine wpListIn_plain hgd fun K' hK' => ?_
  unfold Oper.wpIn
  refine ⟨by simp [Oper.about, hop], ?_⟩
  rw [Oper.semAt_plain F _ _ (by rw [hop]; intro c hc'; cases hc')]
  unfold execOp
  simp only [hop, hx, hy, Instr.storeAt, Instr.sureAddr, Sem.run_bind, Sem.run_pure, Result.andThen_ok, run_storeVar_row w g t ty old cells hg hi hold h1]
  exact hK' _ _ h
end

theorem edges_any (Ab Am : Option Addr) (nb cb nm cm : Nat) (T : Int) (w : World) :
    Calls Try.prog 58 #[netV Ab Am nb cb nm cm, .int .i64 T] w fun e w' => e = .returned (.func (.func 73) #[] #[.pointer (some ⟨w.heap.size, 0, none⟩), .pointer (some ⟨w.heap.size + 1, 0, none⟩)]) ∧
      w' = (w.alloc (.cells #[.slice Ab nb cb, .slice Am nm cm] 27)).alloc (.cells #[.int .i64 T] 3) := by
  go_enter Try.func58, Try.ntmps58
  go_wp2
  go_ret
  exact ⟨rfl, rfl⟩

set_option maxRecDepth 100000 in
set_option maxHeartbeats 2000000 in
theorem edges1_in (m L Bn Bt b1 b2 n₀ : Nat) (Ab Am : Option Addr) (nb cb nm cm T : Nat) (bs : List Int) (ms : List Mv) (J : List Edge → World → Prop) (W : World) (hN : NetIn bs ms) (hT : T ≤ ms.length)
    (hn₀ : n₀ ≤ W.heap.size) (h1n : 0 < nb → b1 < n₀) (h2n : 0 < nm → b2 < n₀) (hJ : Abides2 W.heap.size J)
    (hY : ∀ pre x rest W1, eLay ndP bs.length (bsF bs) 0 (ms.take T) = pre ++ x :: rest → J pre W1 → YieldAt Fence.wide (m - 1) Try.prog L (edgeV x) W1 fun e W' => e = .returned (.bool true) ∧ J (pre ++ [x]) W' ∧ Kd n₀ W1 W')
    (hBn : Blk W Bn 27 #[.slice Ab nb cb, .slice Am nm cm]) (hBt : Blk W Bt 3 #[.int .i64 T]) (hM : NetM W b1 b2 Ab Am nb cb nm cm bs ms) (h0 : J [] W) :
    CallsIn Fence.wide m Try.prog 73 #[.func (.yield L) #[] #[], .pointer (some ⟨Bn, 0, none⟩), .pointer (some ⟨Bt, 0, none⟩)] W fun e W' => (∃ v, e = .returned v) ∧ J (eLay ndP bs.length (bsF bs) 0 (ms.take T)) W' := by
  have hro : Fence.wide.round = none := rfl
  have c0 := hBn.cell 0
  have c1 := hBn.cell 1
  have hnb := hM.b.len
  have hnm := hM.m.len
  have hn8 := hN.n1
  have hm12 := hN.m1
  have hnb8 : nb ≤ 8 := by omega
  have hTc : T ≤ cm := by have := hM.cm; omega
  have HJ := Lib.hid hJ
  have HY := Lib.hid hY
  have HM := Lib.hid hM
  have HN := Lib.hid hN
  have HBN := Lib.hid hBn
  have HBT := Lib.hid hBt
  have H0 := Lib.hid h0
  have HNB := Lib.hid hnb
  have HNM := Lib.hid hnm
  clear hJ hY hM hN h0 hnb hnm hBn hBt
  refine callsIn_of_wp Try.func73 rfl trivial ?_ hro
  simp only [Try.ntmps73, List.size_toArray, List.length_cons, List.length_nil, Nat.reduceAdd, Nat.reduceSub, Array.replicate_succ, Array.replicate_zero, List.push_toArray, List.append_toArray, List.nil_append, List.cons_append]
  gi_wp2_with (first
    | (refine ⟨trivial, fun h => by simp [Fence.wide] at h, ?_⟩; refine (callsIn_wide.2 (begin_any Ab Am nb cb nm cm b1 bs _ HM.out.b hnb8)).mono ?_; rintro e w1 ⟨rfl, hb1⟩; have hA1 := Blk.new w1 120 (amA fun _ => 0); obtain ⟨W2, hW2⟩ : ∃ W2, (w1.alloc (.cells (amA fun _ => 0) 120)).setRow w1.heap.size (amA (bsF bs)) = W2 := ⟨_, rfl⟩; have HA1 := Lib.hid hA1; have HW2 := Lib.hid hW2; have HB1 := Lib.hid hb1; have hBn2 : Blk W2 Bn 27 #[.slice Ab nb cb, .slice Am nm cm] := (by rw [← hW2]; exact ((HBN.out.below hb1 HBN.out.lt).alloc _).grown (grown_setRow _ _ _) (fun e => by injection e with e; have := HBN.out.lt; have := hb1.size; omega)); have hBt2 : Blk W2 Bt 3 #[.int .i64 T] := (by rw [← hW2]; exact ((HBT.out.below hb1 HBT.out.lt).alloc _).grown (grown_setRow _ _ _) (fun e => by injection e with e; have := HBT.out.lt; have := hb1.size; omega)); have c2 := hBn2.cell 1; have c3 := hBt2.cell 0; have HBN2 := Lib.hid hBn2; have HBT2 := Lib.hid hBt2; clear hb1 hA1 hW2 hBn2 hBt2)
    | (refine wpListIn_store_row rfl 120 (.tmp 4) (.tmp 10) rfl w1.heap.size (amA (bsF bs)) rfl rfl 120 _ HA1.out info_am rfl (amA_cells _) ?_; rw [show (w1.alloc (.cells #[.int .i64 0, .int .i64 0, .int .i64 0, .int .i64 0, .int .i64 0, .int .i64 0, .int .i64 0, .int .i64 0] 120)).setRow w1.heap.size (amA (bsF bs)) = W2 from HW2.out]))
  have hz1 := HB1.out.size
  have hA2 : Blk W2 w1.heap.size 120 (amA (bsF bs)) := by rw [← HW2.out]; exact HA1.out.setRow _
  have hJ2 : J [] W2 := by
    rw [← HW2.out]
    refine HJ.out _ _ _ _ (HJ.out _ _ _ none (HJ.out _ _ _ none H0.out ⟨HB1.out.os, HB1.out.tape, HB1.out.output, HB1.out.size, fun i hi _ => HB1.out.block i hi⟩ fun _ e => by cases e) (World.grownBy_alloc _ _ none) fun _ e => by cases e) (grown_setRow _ _ _) fun r e => by
      cases e; exact ⟨hz1, _, _, _, HA1.out⟩
  have hK2 : Kd n₀ W W2 := by
    rw [← HW2.out]
    exact ((Kd.of_below HB1.out hn₀).alloc (by omega) _).new (grown_setRow _ _ _) hz1 hn₀
  have hs2 : w1.heap.size < W2.heap.size := hA2.lt
  have HA2 := Lib.hid hA2
  have HJ2 := Lib.hid hJ2
  have HK2 := Lib.hid hK2
  clear c0 c1 c2 c3 hA2 hJ2 hK2
  gi_loopw [16] (fun i wr => ∃ k : Nat, k ≤ T ∧ i = .int .i64 k ∧ EdSt n₀ J bs ms W w1.heap.size k wr) (fun i _ => T - (intOf i).toNat)
  case atStart => exact ⟨0, Nat.zero_le _, rfl, HJ2.out, HK2.out, HA2.out, hs2⟩
  case round =>
    obtain ⟨k, hk, rfl, hS⟩ := hrel
    have HS := Lib.hid hS
    clear hS
    by_cases hlt : k < T
    · have hkm : k < ms.length := by omega
      obtain ⟨o, rfl, hbz, s0, s1, s2⟩ := (HM.out.m.keep (w' := wr) (fun h => HS.out.kc.below b2 (h2n h)) HS.out.kc.size).atM hkm
      have HOK := Lib.hid (HN.out.at_ hkm)
      have HSP := Lib.hid (eLay_split bs.length (bsF bs) (ms.take T) k (by rw [List.length_take]; omega))
      rw [List.take_take, Nat.min_eq_left (by omega), List.getElem_take] at HSP
      have HTK := Lib.hid (show hasAt (bsF bs) (ms.take (k + 1)) = mvd (hasAt (bsF bs) (ms.take k)) ms[k] by rw [List.take_succ_eq_append_getElem hkm, hasAt_snoc])
      have HEK := Lib.hid (show eLay ndP bs.length (bsF bs) 0 (ms.take (k + 1)) = eLay ndP bs.length (bsF bs) 0 (ms.take k) ++ ((ndP ms[k].fr (k : Nat), ndP ms[k].to (k + 1 : Nat), ms[k].g) :: lay1 bs.length (hasAt (bsF bs) (ms.take k)) k ms[k]) by
        rw [List.take_succ_eq_append_getElem hkm, eLay_snoc, List.length_take, Nat.min_eq_left (by omega)]; simp)
      generalize hmk : ms[k] = mv at s0 s1 s2 HOK HSP HTK HEK
      clear hmk
      have hf0 := HOK.out.f0; have hf1 := HOK.out.f1; have ht0 := HOK.out.t0; have ht1 := HOK.out.t1; have hg0 := HOK.out.g0
      have hg1 : mv.g ≤ 8000000 := by have := HOK.out.g1; have := (HN.out.has_bd k mv.fr).2; omega
      obtain ⟨hrest, hsp⟩ := HSP.out
      have hX0 : wr.heap.size < (wr.alloc (.cells #[.int .i64 mv.fr, .int .i64 mv.to, .int .i64 mv.g] 70)).heap.size := by simp
      have hMX := Blk.new wr 70 #[.int .i64 mv.fr, .int .i64 mv.to, .int .i64 mv.g]
      obtain ⟨fn, tmps, assign, body, hy, hR⟩ := HY.out _ _ _ (wr.alloc (.cells #[.int .i64 mv.fr, .int .i64 mv.to, .int .i64 mv.g] 70)) hsp (HJ.out _ _ _ none HS.out.j (World.grownBy_alloc wr _ none) fun _ e => by cases e)
      dsimp only [edgeV, ndP] at hy
      rw [show ((k + 1 : Nat) : Int) = (k : Int) + 1 by simp] at hy
      have HMX := Lib.hid hMX
      have m0 := hMX.cell 0
      have m1 := hMX.cell 1
      have m2 := hMX.cell 2
      have HR := Lib.hid hR
      clear hR hMX hsp
      gi_wp2
      refine ⟨fun h => by simp [Fence.wide] at h, HR.out.mono ?_⟩
      rintro e W3 ⟨rfl, hJ3, hk3⟩
      have hKX : Kd n₀ W W3 := (HS.out.kc.alloc (Nat.le_trans hn₀ HS.out.kc.size) _).trans hk3
      have hA3 := (HS.out.a.alloc (.cells #[.int .i64 mv.fr, .int .i64 mv.to, .int .i64 mv.g] 70)).kd hk3
      have hM3 := HMX.out.kd hk3
      have b0 := (HBN.out.kd hKX).cell 0
      have HIN := Lib.hid (show EdIn n₀ J bs ms W w1.heap.size wr.heap.size k mv 0 W3 from ⟨hJ3, hKX, hA3, hM3⟩)
      have hz3 : wr.heap.size < W3.heap.size := hM3.lt
      have HSZ := Lib.hid HS.out.sz
      clear hJ3 hk3 hKX hA3 hM3 m0 m1 m2 hy HR s0 s1 s2
      gi_wp2
      obtain ⟨wo, rfl⟩ : ∃ wo : World, wo = wr := ⟨_, rfl⟩
      gi_loopw [39] (fun i wr => ∃ j : Nat, j ≤ nb ∧ i = .int .i64 j ∧ EdIn n₀ J bs ms W w1.heap.size wo.heap.size k mv j wr) (fun i _ => nb - (intOf i).toNat)
      case atStart => exact ⟨0, Nat.zero_le _, rfl, HIN.out⟩
      case round =>
        obtain ⟨j, hj, rfl, hI⟩ := hrel
        have HI := Lib.hid hI
        clear hI
        have a0 := HI.out.m.cell 0
        have a1 := HI.out.m.cell 1
        have a2 := HI.out.m.cell 2
        by_cases hjl : j < nb
        · have hjb : j < bs.length := by have := HNB.out; omega
          have hj8 : j < 8 := by omega
          have ha := HN.out.has_bd k j
          obtain ⟨x, hx⟩ : ∃ x, x = hasAt (bsF bs) (ms.take k) j := ⟨_, rfl⟩
          rw [← hx] at ha
          obtain ⟨hx0, hx1⟩ := ha
          have ax : wr.cell? ⟨w1.heap.size, j, none⟩ = some (.int .i64 x) := by
            have := HI.out.a.cell j
            rw [this, amA_get _ j hj8, hx]
          obtain ⟨r2, hsp2⟩ := lay1_split bs.length (hasAt (bsF bs) (ms.take k)) k mv j hjb
          have HSN := Lib.hid (lay1_snoc bs.length (hasAt (bsF bs) (ms.take k)) k mv j hjb)
          obtain ⟨hr', hsp⟩ := HSP.out
          have hpre : eLay ndP bs.length (bsF bs) 0 (ms.take T) = (eLay ndP bs.length (bsF bs) 0 (ms.take k) ++ ((ndP mv.fr (k : Nat), ndP mv.to (k + 1 : Nat), mv.g) :: (lay1 bs.length (hasAt (bsF bs) (ms.take k)) k mv).take j)) ++ ((ndP j (k : Nat), ndP j (k + 1 : Nat), stay (hasAt (bsF bs) (ms.take k)) mv j) :: (r2 ++ hr')) := by
            rw [hsp]
            conv => lhs; rw [hsp2]
            simp
          have HX := Lib.hid hx
          clear hsp hsp2 hx
          by_cases hjf : (j : Int) = mv.fr
          · have hst : stay (hasAt (bsF bs) (ms.take k)) mv j = x - mv.g := by unfold stay; rw [if_pos hjf, HX.out]
            have hgx : mv.g ≤ x := by have := HOK.out.g1; rw [← hjf, ← HX.out] at this; exact this
            rw [hst] at hpre HSN
            obtain ⟨fn, tmps, assign, body, hy, hR⟩ := HY.out _ _ _ wr hpre HI.out.j
            dsimp only [edgeV, ndP] at hy
            rw [show ((k + 1 : Nat) : Int) = (k : Int) + 1 by simp] at hy
            have HR := Lib.hid hR
            clear hR hpre hst
            have hjt : ((j : Int) == mv.fr) = true := by simp [hjf]
            have HJF := Lib.hid hjf
            clear hjf
            gi_wp2
            refine ⟨fun h => by simp [Fence.wide] at h, HR.out.mono ?_⟩
            rintro e W4 ⟨rfl, hJ4, hk4⟩
            have HIN4 := Lib.hid (show EdIn n₀ J bs ms W w1.heap.size wo.heap.size k mv (j + 1) W4 from ⟨by rw [HSN.out]; simpa using hJ4, HI.out.kc.trans hk4, HI.out.a.kd hk4, HI.out.m.kd hk4⟩)
            clear hJ4 hk4 hy HR
            gi_wp2
            go_roundw
            case rel => exact ⟨j + 1, by omega, by go_num, HIN4.out⟩
            case measure => simp [intOf]; omega
          · have hst : stay (hasAt (bsF bs) (ms.take k)) mv j = x := by unfold stay; rw [if_neg hjf, HX.out]; omega
            rw [hst] at hpre HSN
            obtain ⟨fn, tmps, assign, body, hy, hR⟩ := HY.out _ _ _ wr hpre HI.out.j
            dsimp only [edgeV, ndP] at hy
            rw [show ((k + 1 : Nat) : Int) = (k : Int) + 1 by simp] at hy
            have HR := Lib.hid hR
            clear hR hpre hst
            have hjt : ((j : Int) == mv.fr) = false := by simp [hjf]
            have HJF := Lib.hid hjf
            clear hjf
            gi_wp2
            refine ⟨fun h => by simp [Fence.wide] at h, HR.out.mono ?_⟩
            rintro e W4 ⟨rfl, hJ4, hk4⟩
            have HIN4 := Lib.hid (show EdIn n₀ J bs ms W w1.heap.size wo.heap.size k mv (j + 1) W4 from ⟨by rw [HSN.out]; simpa using hJ4, HI.out.kc.trans hk4, HI.out.a.kd hk4, HI.out.m.kd hk4⟩)
            clear hJ4 hk4 hy HR
            gi_wp2
            go_roundw
            case rel => exact ⟨j + 1, by omega, by go_num, HIN4.out⟩
            case measure => simp [intOf]; omega
        · obtain rfl : j = nb := by omega
          have HLT := Lib.hid (show (lay1 bs.length (hasAt (bsF bs) (ms.take k)) k mv).take j = lay1 bs.length (hasAt (bsF bs) (ms.take k)) k mv from List.take_of_length_le (by rw [lay1_len]; have := HNB.out; omega))
          have hsz := HI.out.a.lt
          gi_wp2_with (first
            | (refine ⟨trivial, fun h => by simp [Fence.wide] at h, ?_⟩; refine (callsIn_wide.2 (moved_any (hasAt (bsF bs) (ms.take k)) mv _ hf0 (by omega) ht0 (by omega) (fun b => by have := HN.out.has_bd k b; omega) (by omega) (by omega))).mono ?_; rintro e w5 ⟨rfl, hb5⟩; have hA5 := HI.out.a.below hb5 hsz; have HB5 := Lib.hid hb5; have HA5 := Lib.hid hA5; clear hb5 hA5)
            | (refine wpListIn_load_row rfl 120 (.tmp 4) rfl w1.heap.size rfl 120 (amA (hasAt (bsF bs) (ms.take k))) (0, 0) _ HI.out.a Try.underlying120 rfl info_am ?_)
            | (refine wpListIn_store_row rfl 120 (.tmp 4) (.tmp 68) rfl w1.heap.size (amA (mvd (hasAt (bsF bs) (ms.take k)) mv)) rfl rfl 120 _ HA5.out info_am rfl (amA_cells _) ?_))
          have HEN := Lib.hid (show EdSt n₀ J bs ms W w1.heap.size (k + 1) (w5.setRow w1.heap.size (amA (mvd (hasAt (bsF bs) (ms.take k)) mv))) from
            ⟨by
              rw [HEK.out, ← HLT.out]
              exact HJ.out _ _ _ _ (HJ.out _ _ _ none HI.out.j ⟨HB5.out.os, HB5.out.tape, HB5.out.output, HB5.out.size, fun i hi _ => HB5.out.block i hi⟩ fun _ e => by cases e) (grown_setRow _ _ _) fun r e => by cases e; exact ⟨hz1, _, _, _, HA5.out⟩,
             (HI.out.kc.trans (Kd.of_below HB5.out (Nat.le_trans hn₀ HI.out.kc.size))).new (grown_setRow _ _ _) hz1 hn₀, by rw [HTK.out]; exact HA5.out.setRow _, by rw [size_setRow]; have := HB5.out.size; omega⟩)
          gi_wp2
          go_roundw
          case rel => exact ⟨k + 1, by omega, by go_num, HEN.out⟩
          case measure => simp [intOf]; omega
    · obtain rfl : k = T := by omega
      gi_wp2
      go_end0
      exact ⟨⟨_, rfl⟩, HS.out.j⟩

theorem NetM.old {w w' : World} {b1 b2 : Nat} {Ab Am : Option Addr} {nb cb nm cm : Nat} {bs : List Int} {ms : List Mv} (h : NetM w b1 b2 Ab Am nb cb nm cm bs ms) (hb : Below w.heap.size w w') : NetM w' b1 b2 Ab Am nb cb nm cm bs ms := ⟨h.b.old hb, h.m.old hb, h.cb, h.cm⟩
theorem edges_hands (m Bn Bt b1 b2 n₀ : Nat) (Ab Am : Option Addr) (nb cb nm cm T : Nat) (bs : List Int) (ms : List Mv) (w : World) (hN : NetIn bs ms) (hT : T ≤ ms.length)
    (hn₀ : n₀ ≤ w.heap.size) (h1n : 0 < nb → b1 < n₀) (h2n : 0 < nm → b2 < n₀) (hBn : Blk w Bn 27 #[.slice Ab nb cb, .slice Am nm cm]) (hBt : Blk w Bt 3 #[.int .i64 T]) (hM : NetM w b1 b2 Ab Am nb cb nm cm bs ms) :
    Hands Fence.wide m Try.prog 73 #[.pointer (some ⟨Bn, 0, none⟩), .pointer (some ⟨Bt, 0, none⟩)] (fun e => edgeV e) (Kd n₀) (eLay ndP bs.length (bsF bs) 0 (ms.take T)) w := fun L J W hW hJ hY h0 =>
  edges1_in m L Bn Bt b1 b2 n₀ Ab Am nb cb nm cm T bs ms J W hN hT (Nat.le_trans hn₀ hW.size) h1n h2n hJ hY (hBn.below hW hBn.lt) (hBt.below hW hBt.lt) (hM.old hW) h0
end Go.Proofs.Ytmoolcpogilgkaa
