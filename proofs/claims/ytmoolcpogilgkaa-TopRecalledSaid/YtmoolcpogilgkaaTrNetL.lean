/-
  OriginsOf, CopyInts, Total of the kit; Others of the reference. Others of the reference; Total of the kit. Nets made of numbers: rows that are written in place; what a further move makes of what batches have.
-/
import Derived.Test.YtmoolcpogilgkaaTrSet
import Derived.Test.YtmoolcpogilgkaaTrArr
import Derived.Test.YtmoolcpogilgkaaGoOn
import Derived.Test.YtmoolcpogilgkaaTrHol
import Derived.Test.YtmoolcpogilgkaaSame
import Derived.Deep.QuietTactic
import Derived.BigQuiet
import Derived.Test.YtmoolcpogilgkaaDie
set_option linter.unusedVariables false
set_option linter.unusedSimpArgs false
namespace Go.Proofs.Ytmoolcpogilgkaa
open Go.RowKit Go.Shelf Go.Sort

theorem rg_take_snoc (k : Nat) : rg (k + 1) = rg k ++ [(k : Int)] := by
  unfold rg; rw [List.range_succ, List.map_append]; rfl
theorem orgIn_snoc {k : Nat} {l : List Int} (h : OrgIn k l) : OrgIn (k + 1) (l ++ [(k : Int)]) where
  rg o ho := by
    rcases List.mem_append.1 ho with h1 | h1
    · have := h.rg o h1; omega
    · rw [List.mem_singleton.1 h1]; omega
  up := by
    rw [List.pairwise_append]
    refine ⟨h.up, List.pairwise_singleton .., fun a ha b hb => ?_⟩
    rw [List.mem_singleton.1 hb]
    exact (h.rg a ha).2
theorem orgIn_up {k : Nat} {l : List Int} (h : OrgIn k l) : OrgIn (k + 1) l where
  rg o ho := by have := h.rg o ho; omega
  up := h.up

set_option maxRecDepth 100000 in
set_option maxHeartbeats 2000000 in
theorem originsOf_any (d nb cb nm cm : Nat) (Ab Am : Option Addr) (w : World) (hd : IsDie w d) (hnb : nb ≤ 100000) :
    Calls Try.prog 7 #[.pointer (some ⟨d, 0, none⟩), netV Ab Am nb cb nm cm] w fun e w' => ∃ (l : List Int) (A : Option Addr) (c : Nat), OrgIn nb l ∧ e = .returned (.slice A l.length c) ∧ w'.ownsRow w.heap.size 3 1 (.slice A l.length c) l.length (l.flatMap encI) ∧ DieTo d w w' := by
  obtain ⟨i0, hi, iz0, iz1, iz2⟩ := info_parts info_int
  have hz := hd.lt
  have hBn := Blk.new w 27 #[.slice Ab nb cb, .slice Am nm cm]
  have c0 := hBn.cell 0
  have HBN := Lib.hid hBn
  have HD := Lib.hid (hd.alloc (.cells #[.slice Ab nb cb, .slice Am nm cm] 27))
  clear hBn hd
  go_enter Try.func7, Try.ntmps7
  go_wp2_with fail
  clear c0
  go_loopw [5, 6] (fun v i wr => ∃ (k c : Nat) (A : Option Addr) (l : List Int), k ≤ nb ∧ i = .int .i64 k ∧ v = .slice A l.length c ∧ OrgIn k l ∧ wr.ownsRow (w.heap.size + 1) 3 1 (.slice A l.length c) l.length (l.flatMap encI) ∧ IsDie wr d ∧ Blk wr w.heap.size 27 #[.slice Ab nb cb, .slice Am nm cm] ∧ w.grownBy wr (some d)) (fun _ i _ => nb - (intOf i).toNat)
  case atStart => exact ⟨0, 0, none, [], Nat.zero_le _, rfl, rfl, ⟨fun o ho => (by cases ho), List.Pairwise.nil⟩, World.ownsRow_nil _ _ _ _, HD.out, HBN.out, only_alloc (only_refl _ _) _⟩
  case round =>
    obtain ⟨k, c, A, l, hk, rfl, rfl, hl, hown, hdie, hblk, hgr⟩ := hrel
    have c0 := hblk.cell 0
    have hll : l.length ≤ k := by
      have h1 := nodup_len_le hl.nodup (N := k) (fun v hv => hl.rg v hv)
      exact h1
    have HL := Lib.hid hl
    have HOWN := Lib.hid hown
    have HDI := Lib.hid hdie
    have HBL := Lib.hid hblk
    have HGR := Lib.hid hgr
    have hzz := hblk.lt
    clear hl hown hdie hblk hgr
    by_cases hlt : k < nb
    · go_wp2_with fail
      refine (once_any d 2 _ HDI.out (by omega)).mono ?_
      rintro e w1 ⟨bb, rfl, hd1, hg1⟩
      have hb1 := die_keep HBL.out hg1 (by omega)
      have hbo := HDI.out.lt
      have HD1 := Lib.hid hd1
      have HB1 := Lib.hid hb1
      have HG1 := Lib.hid (only_step hg1 HGR.out (.inl rfl))
      have HO1 := Lib.hid (ownsRow_die HOWN.out hg1 (by omega))
      have hz1 := hg1.size
      have d0 := hb1.cell 0
      clear hd1 hg1 hb1 c0
      cases bb
      · go_wp2_with fail
        go_roundw
        case rel => exact ⟨k + 1, c, A, l, by omega, by go_num, rfl, orgIn_up HL.out, HO1.out, HD1.out, HB1.out, HG1.out⟩
        case measure => simp [intOf]; omega
      · go_wp2_with (at_builtin; refine wpList_append_sl rfl _ _ 22 rfl (w.heap.size + 1) 3 i0 _ 8 Try.underlying22 hi iz0 iz1 iz2 rfl (by omega) encI_len _ l.length _ rfl (HO1.out.alloc _) w1.heap.size _ 1 1 [(k : Int)] rfl (Sl.newI w1 [(k : Int)] 3) oneI (by unfold maxLen; omega) (by omega) (by simp; omega) ?_; intro A2 c2 w2 hown2 hgrow2 _; have HO2 := Lib.hid hown2; have HG2 := Lib.hid hgrow2; clear hown2 hgrow2)
        have hA := HO1.out.alloc (.cells #[.int .i64 (k : Int)] 3)
        have hkeep : ∀ b, b < w.heap.size + 1 → w2.heap[b]? = w1.heap[b]? := fun b hb => (own_keeps hA HG2.out hb (by simp; omega)).trans (Below.heap_alloc _ _ _ (by omega))
        have HD2 := Lib.hid (HD1.out.keep (hkeep d (by omega)))
        have HB2 := Lib.hid (show Blk w2 w.heap.size 27 #[.slice Ab nb cb, .slice Am nm cm] from (hkeep _ (by omega)).trans HB1.out)
        have HG3 := Lib.hid (only_own hA HG2.out (only_alloc HG1.out _) (by omega))
        clear hA hkeep
        go_wp2_with fail
        go_roundw
        case rel =>
          have e : l.length + 1 = (l ++ [(k : Int)]).length := by simp
          refine ⟨k + 1, c2, A2, l ++ [(k : Int)], by omega, by go_num, by rw [e], orgIn_snoc HL.out, ?_, HD2.out, HB2.out, HG3.out⟩
          rw [← e, List.flatMap_append]; exact HO2.out
        case measure => simp [intOf]; omega
    · obtain rfl : k = nb := by omega
      go_wp2_with fail
      go_ret
      exact ⟨l, A, c, HL.out, rfl, ownsRow_base HOWN.out (by omega), HDI.out, HGR.out⟩

set_option maxRecDepth 100000 in
set_option maxHeartbeats 1000000 in
/-- a copy of numbers -/
theorem copyInts_any (b n c : Nat) (A : Option Addr) (l : List Int) (w : World) (hl : Sl encI 1 w b A n l) (hn : n ≤ 1000000) :
    Calls Try.prog 19 #[.slice A n c] w fun e w' => ∃ A' c', e = .returned (.slice A' n c') ∧ w'.ownsRow w.heap.size 3 1 (.slice A' n c') n (l.flatMap encI) ∧ Below w.heap.size w w' := by
  obtain ⟨i0, hi, iz0, iz1, iz2⟩ := info_parts info_int
  have hown0 := own_empty w 3 1 w.heap.size w.heap.size rfl (Nat.le_refl _)
  have hsl := hl.alloc (.cells #[] 3)
  have HOW := Lib.hid hown0
  have HSL := Lib.hid hsl
  clear hl hsl hown0
  go_enter Try.func19, Try.ntmps19
  go_wp2_with (at_builtin; refine wpList_append_sl rfl _ _ 22 rfl w.heap.size 3 i0 _ 8 Try.underlying22 hi iz0 iz1 iz2 rfl (by omega) encI_len _ 0 [] rfl HOW.out b _ n c l rfl HSL.out oneI (by unfold maxLen; omega) (by omega) (by simp) ?_; intro A1 c1 w1 hown1 hgrow _; have HO1 := Lib.hid hown1; have HB1 := Lib.hid (below_own HOW.out hgrow ((Below.refl _ w).alloc (Nat.le_refl _) _) (Nat.le_refl _) (Nat.le_refl _)); clear hown1 hgrow)
  go_ret
  have ho := HO1.out
  simp only [Nat.zero_add, List.nil_append] at ho ⊢
  exact ⟨A1, c1, rfl, ho, HB1.out⟩
end Go.Proofs.Ytmoolcpogilgkaa

namespace Go.Proofs.Ytmoolcpogilgkaa
open Go.RowKit Go.Shelf Go.Sort
theorem others_yes {k : Nat} {l : List Int} (h : (k : Int) ∈ l) : othersT (k + 1) l = othersT k l := by
  unfold othersT; rw [rg_take_snoc, List.filter_append]; simp [h]
theorem others_no {k : Nat} {l : List Int} (h : (k : Int) ∉ l) : othersT (k + 1) l = othersT k l ++ [(k : Int)] := by
  unfold othersT; rw [rg_take_snoc, List.filter_append]; simp [h]
theorem others_len (k : Nat) (l : List Int) : (othersT k l).length ≤ k := by
  unfold othersT
  have := List.length_filter_le (fun b => !decide (b ∈ l)) (rg k)
  rwa [rg_length] at this
theorem mem_take_snoc {l : List Int} {j : Nat} (hj : j < l.length) (x : Int) : decide (x ∈ l.take (j + 1)) = (decide (x ∈ l.take j) || (l[j] == x)) := by
  rw [List.take_succ_eq_append_getElem hj, Bool.eq_iff_iff]
  simp only [decide_eq_true_eq, List.mem_append, List.mem_singleton, Bool.or_eq_true, beq_iff_eq]
  exact ⟨fun h => h.imp id Eq.symm, fun h => h.imp id Eq.symm⟩


end Go.Proofs.Ytmoolcpogilgkaa

namespace Go.Proofs.Ytmoolcpogilgkaa
open Go.RowKit Go.Shelf Go.Sort

/-- a row of numbers, with room behind it -/
def RowC (W : World) (g : Nat) (l : List Int) : Prop := ∃ cs : Array Value, Blk W g 3 cs ∧ l.length ≤ cs.size ∧ cs.toList.take l.length = l.map (Value.int .i64)
theorem RowC.lt {W : World} {g : Nat} {l : List Int} (h : RowC W g l) : g < W.heap.size := by obtain ⟨cs, h, _⟩ := h; exact h.lt
theorem RowC.grown {W W' : World} {g : Nat} {l : List Int} {row : Option Nat} (h : RowC W g l) (hg : W.grownBy W' row) (hne : some g ≠ row) : RowC W' g l := by obtain ⟨cs, h, h2⟩ := h; exact ⟨cs, h.grown hg hne, h2⟩
theorem RowC.keep {W W' : World} {g : Nat} {l : List Int} (h : RowC W g l) (hb : W'.heap[g]? = W.heap[g]?) : RowC W' g l := by obtain ⟨cs, h, h2⟩ := h; exact ⟨cs, hb.trans h, h2⟩
theorem RowC.cell {W : World} {g : Nat} {l : List Int} (h : RowC W g l) {k : Nat} (hk : k < l.length) : W.cell? ⟨g, k, none⟩ = some (.int .i64 l[k]) := by
  obtain ⟨cs, h, h2, h3⟩ := h
  rw [h.cell]
  have h4 := congrArg (fun x : List Value => x[k]?) h3
  simp only [List.getElem?_take, if_pos hk, List.getElem?_map, List.getElem?_eq_getElem hk, Option.map_some] at h4
  rw [← h4]
  simp
theorem RowC.frozen {W : World} {g : Nat} {l : List Int} (h : RowC W g l) (k : Nat) : W.frozen? ⟨g, k, none⟩ = false := by obtain ⟨cs, h, _⟩ := h; exact h.frozen k
theorem RowC.set_ {W : World} {g : Nat} {l : List Int} (h : RowC W g l) {k : Nat} (hk : k < l.length) (x : Int) : RowC (W.setCell ⟨g, k, none⟩ (.int .i64 x)) g (l.set k x) := by
  obtain ⟨cs, h, h2, h3⟩ := h
  refine ⟨_, h.set_ k (.int .i64 x), by simpa using h2, ?_⟩
  rw [List.length_set, Array.toList_setIfInBounds, List.take_set, h3, List.map_set]
theorem RowC.far {W : World} {g : Nat} {l : List Int} (h : RowC W g l) {p : Addr} (hp : g ≠ p.block) (u : Value) : RowC (W.setCell p u) g l := by
  obtain ⟨cs, h, h2⟩ := h
  exact ⟨cs, h.far hp u, h2⟩
theorem RowC.of_own {W : World} {base n c : Nat} {A : Option Addr} {l : List Int} (h : W.ownsRow base 3 1 (.slice A n c) n (l.flatMap encI)) (hn : n = l.length) (h0 : 0 < n) : ∃ g, A = some ⟨g, 0, none⟩ ∧ base ≤ g ∧ RowC W g l := by
  rcases h.2 with ⟨_, hz⟩ | ⟨g, cap, cur, hv, hb, hg, h1, h2, h3, h4⟩
  · omega
  · injection hv with hv _ _
    refine ⟨g, hv, hb, cur, hg, by omega, ?_⟩
    rw [← hn, ← flatI]
    simpa using h4

theorem chkMs_zero {n : Nat} : ∀ {a : Int → Int} {l : List Mv}, OkMs n a l → (∀ b, 0 ≤ a b) → sm (rg n) a ≤ 8000000 → chkMs n a l = 0
  | _, [], _, _, _ => rfl
  | a, m :: l, h, h0, hs => by
    obtain ⟨hm, hl⟩ := h
    have h1 : a m.fr ≤ sm (rg n) a := sm_ge_one (fun x _ => h0 x) (mem_rg.2 ⟨hm.f0, hm.f1⟩)
    have h2 := hm.g1
    have h3 := hm.g0
    simp only [chkMs]
    rw [if_neg (by rw [inR_iff, inR_iff]; exact not_not_intro ⟨⟨hm.f0, hm.f1⟩, hm.t0, hm.t1⟩), if_neg hm.ne, if_neg (not_not_intro ⟨by omega, by omega⟩), if_neg (by omega)]
    exact chkMs_zero hl (mvd_nonneg hm h0) (by rw [sm_mvd hm]; exact hs)
theorem chkNet_zero {bs : List Int} {ms : List Mv} (h : NetIn bs ms) : chkNet bs ms = 0 := by
  have h1 := h.n0
  have h2 := h.n1
  have h3 := h.m1
  unfold chkNet
  rw [if_neg (by omega), if_neg (by omega), if_neg (not_not_intro h.gr), if_neg (by omega)]
  exact chkMs_zero h.ms h.pos h.sum

theorem has_len (n : Nat) (a : Int → Int) : ((rg n).map a).length = n := by rw [List.length_map, rg_length]
theorem has_get {n : Nat} {a : Int → Int} {k : Nat} (hk : k < n) : ((rg n).map a)[k]'(by rw [has_len]; exact hk) = a k := by simp [rg]
theorem has_start (bs : List Int) : (rg bs.length).map (bsF bs) = bs := by
  refine List.ext_getElem (by rw [has_len]) fun k h1 h2 => ?_
  rw [has_get h2, bsF_get h2]
theorem has_move {n : Nat} {a : Int → Int} {f t : Nat} (hf : f < n) (ht : t < n) (hne : f ≠ t) (g : Int) :
    (((rg n).map a).set f (a f - g)).set t (a t + g) = (rg n).map (mvd a ⟨f, t, g⟩) := by
  refine List.ext_getElem (by simp) fun k h1 h2 => ?_
  rw [has_len] at h2
  rw [has_get h2, List.getElem_set]
  show _ = a (k : Int) - (if (k : Int) = (f : Int) then g else 0) + (if (k : Int) = (t : Int) then g else 0)
  by_cases hkt : t = k
  · subst hkt
    rw [if_pos rfl, if_neg (show ¬ ((t : Int) = (f : Int)) by omega), if_pos rfl]
    omega
  · rw [if_neg hkt, List.getElem_set]
    by_cases hkf : f = k
    · subst hkf
      rw [if_pos rfl, if_pos rfl, if_neg (show ¬ ((f : Int) = (t : Int)) by omega)]
      omega
    · rw [if_neg hkf, has_get h2, if_neg (show ¬ ((k : Int) = (f : Int)) by omega), if_neg (show ¬ ((k : Int) = (t : Int)) by omega)]
      omega
theorem okMs_snoc {n : Nat} {a : Int → Int} {ms : List Mv} {m : Mv} (h : OkMs n a ms) (hm : OkM n (hasAt a ms) m) : OkMs n a (ms ++ [m]) := OkMs.append.2 ⟨h, hm, trivial⟩
end Go.Proofs.Ytmoolcpogilgkaa
