/-
  price.Write: the text of a book.
-/
import Derived.Test.YtjmppionedcfeaaGreatDoorText
import Derived.Test.YtjmppionedcfeaaGreatDoorSealW
import Derived.Lib.ItoaLen
import Derived.Deep.CutRange
set_option linter.unusedVariables false
set_option linter.unusedSimpArgs false
namespace Go.Proofs.YtjmppionedcfeaaGreatDoor
open Go.RowKit

theorem isB_below {T e : TypeId} {B b : Nat} {bs : List Value} {W W' : World} (h : Lib.IsBuilder T e B b bs W) (hb : Below W.heap.size W W') : Lib.IsBuilder T e B b bs W' := by
  have one : ∀ {p : Value}, Lib.BuilderAt T e B b p bs W → Lib.BuilderAt T e B b p bs W' := fun {p} h => by
    have hlt := h.lt
    obtain ⟨h1, v, h2, h3, h4⟩ := h
    exact ⟨h1, v, (hb.block b hlt).trans h2, ownsRow_below h3 hb (Nat.le_refl _), h4⟩
  exact h.elim (fun x => .inl (one x)) (fun x => .inr (one x))

def saleT (s : Sale) : List UInt8 := rowT [115, 97, 108, 101] (nums s)
def dayT (st gd : Int) : List UInt8 := rowT [100, 97, 121] [st, gd]
def endT (m s : Int) : List UInt8 := rowT [101, 110, 100] [m, s]
def salesT (l : List Sale) : List UInt8 := l.flatMap saleT
def writeT (st gd : Int) (l : List Sale) : List UInt8 := dayT st gd ++ salesT l ++ endT l.length (sealOf st gd l)
def textOf (st gd : Int) (l : List Sale) : List UInt8 := if check st gd l = 0 then writeT st gd l else []
theorem salesT_snoc (l : List Sale) (k : Nat) (hk : k < l.length) : salesT (l.take (k + 1)) = salesT (l.take k) ++ saleT l[k] := by
  unfold salesT
  rw [List.take_succ_eq_append_getElem hk, List.flatMap_append, List.flatMap_cons, List.flatMap_nil, List.append_nil]
theorem numsT_le : ∀ (l : List Int), (∀ x ∈ l, I64 x) → (numsT l).length ≤ 22 * l.length
  | [], _ => by simp [numsT]
  | x :: r, h => by
    have h1 := numsT_le r (fun y hy => h y (List.mem_cons_of_mem _ hy))
    have h2 := h x List.mem_cons_self
    have h3 := Lib.itoa_length_le x h2.1 h2.2
    have h4 : numsT (x :: r) = (32 :: Lib.itoa x) ++ numsT r := by simp [numsT]
    rw [h4, List.length_append, List.length_cons, List.length_cons]
    omega
theorem i64_of {x : Int} (h0 : 0 ≤ x) (h1 : x ≤ 1000000000000) : I64 x := ⟨by omega, by omega⟩
theorem nums_i64 {st gd : Int} {s : Sale} (h : SaleIn st gd s) (hs : st ≤ 8) (hg : gd ≤ 8) : ∀ x ∈ nums s, I64 x := fun x hx => by
  have := h.nums_bd hs hg x hx
  exact ⟨by omega, by omega⟩
theorem saleT_le {st gd : Int} {s : Sale} (h : SaleIn st gd s) (hs : st ≤ 8) (hg : gd ≤ 8) : (saleT s).length ≤ 140 := by
  have h1 := numsT_le (nums s) (nums_i64 h hs hg)
  unfold saleT
  rw [rowT_len]
  simp [nums] at h1 ⊢
  omega
theorem salesT_le {st gd : Int} (hs : st ≤ 8) (hg : gd ≤ 8) : ∀ (l : List Sale), (∀ s ∈ l, SaleIn st gd s) → (salesT l).length ≤ 140 * l.length
  | [], _ => by simp [salesT]
  | s :: r, h => by
    have h1 := salesT_le hs hg r (fun y hy => h y (List.mem_cons_of_mem _ hy))
    have h2 := saleT_le (h s List.mem_cons_self) hs hg
    have h4 : salesT (s :: r) = saleT s ++ salesT r := by simp [salesT]
    rw [h4, List.length_append, List.length_cons]
    omega
theorem pairT_le (wd : List UInt8) (hw : wd.length = 3) {x y : Int} (hx : I64 x) (hy : I64 y) : (rowT wd [x, y]).length ≤ 60 := by
  have h1 := numsT_le [x, y] (fun z hz => by simp at hz; rcases hz with rfl | rfl <;> assumption)
  rw [rowT_len]
  simp at h1
  omega

/-- while a text is written: the book, and the builder -/
structure WB (w : World) (st gd : Int) (A : Option Addr) (n c bB : Nat) (acc : List UInt8) (W : World) : Prop where
  ob : OverBook w st gd A n c W
  bl : Lib.IsBuilder 68 5 bB bB (Lib.byteCells acc) W
  lo : w.heap.size < bB
section
variable {w W W' : World} {st gd : Int} {A : Option Addr} {n c bB : Nat} {acc : List UInt8}
theorem WB.below (h : WB w st gd A n c bB acc W) (hb : Below W.heap.size W W') : WB w st gd A n c bB acc W' := ⟨h.ob.below hb, isB_below h.bl hb, h.lo⟩
theorem WB.alloc (h : WB w st gd A n c bB acc W) (o : Obj) : WB w st gd A n c bB acc (W.alloc o) := h.below ((Below.refl _ W).alloc (Nat.le_refl _) o)
theorem WB.drew (h : WB w st gd A n c bB acc W) : WB w st gd A n c bB acc W.drew := h.below (Below.refl _ W).drew
theorem WB.size (h : WB w st gd A n c bB acc W) : bB < W.heap.size := h.bl.elim (fun x => x.lt) (fun x => x.lt)
theorem wstr_any (h : WB w st gd A n c bB acc W) (t : List UInt8) (hlen : acc.length + t.length ≤ 1000000) :
    Calls Tryz.prog 28 #[.pointer (some ⟨bB, 0, none⟩), .string ⟨t.toArray⟩] W fun e W' => (∃ v, e = .returned (.tuple #[.int .i64 v, .nilIface])) ∧ WB w st gd A n c bB (acc ++ t) W' := by
  refine (Tryz.Builder_WriteString bB bB (Lib.byteCells acc) ⟨t.toArray⟩ W h.bl (by rw [Lib.byteCells_length]; simp [ByteArray.size]; omega) (Nat.le_of_lt h.size)).mono ?_
  rintro e W' ⟨rfl, hb, hB⟩
  refine ⟨⟨_, rfl⟩, ⟨h.ob.low.trans (hB.mono (Nat.le_of_lt h.lo)), h.ob.blk.below hB h.lo⟩, .inr ?_, h.lo⟩
  rw [Lib.byteCells_append]
  exact hb
theorem wend_any (h : WB w st gd A n c bB acc W) : Calls Tryz.prog 31 #[.pointer (some ⟨bB, 0, none⟩)] W fun e W' => e = .returned (.string ⟨acc.toArray⟩) ∧ OverBook w st gd A n c W' := by
  refine (Tryz.Builder_String_any bB bB acc W h.bl (Nat.le_of_lt h.size)).mono ?_
  rintro e W' ⟨rfl, hB⟩
  exact ⟨rfl, h.ob.low.trans (hB.mono (Nat.le_of_lt h.lo)), h.ob.blk.below hB h.lo⟩
theorem WB.start (h : OverBook w st gd A n c W) : WB w st gd A n c W.heap.size [] (W.alloc (.cells #[.pointer none, .slice none 0 0] 68)) :=
  ⟨h.alloc _, Lib.fresh_isBuilder _ _ W, h.blk.lt⟩
end

set_option maxRecDepth 100000 in
set_option maxHeartbeats 2000000 in
theorem write_any (st gd : Int) (b n c : Nat) (A : Option Addr) (l : List Sale) (w : World) (hl : Sl encS 6 w b A n l) (hn : n ≤ 1000000000000) (hp : Pow w) :
    Calls Tryz.prog 8 #[.agg #[.int .i64 st, .int .i64 gd, .slice A n c]] w fun e w' => e = .returned (.tuple #[.string ⟨(textOf st gd l).toArray⟩, .int .i64 (check st gd l)]) ∧ Below w.heap.size w w' := by
  have HL := Lib.hid hl
  have HP := Lib.hid hp
  have HA := Lib.hid hl.len
  have hO := OverBook.start w st gd A n c
  clear hp
  by_cases hc : check st gd l = 0
  · have HC := Lib.hid hc
    have hin := check_zero.1 hc
    have HT := Lib.hid (show textOf st gd l = writeT st gd l from if_pos hc)
    have HI := Lib.hid hin
    obtain ⟨hs1, hs2, hg1, hg2, hlen, _⟩ := hin
    have hn40 : n ≤ 40 := by have := HA.out; omega
    clear hc
    go_enter Tryz.func8, Tryz.ntmps8
    go_wp2_with fail
    refine (check_any st gd b n c A l _ (hl.alloc _) hn).mono ?_
    rw [HC.out]
    rintro e w1 ⟨rfl, hb1⟩
    have hO1 := hO.below hb1
    have HW := Lib.hid ((WB.start hO1).alloc (.cells #[.int .i64 st, .int .i64 gd] 3))
    have hO2 := hO1.alloc (.cells #[.pointer none, .slice none 0 0] 68)
    have c0 := hO2.blk.cell 0
    have c1 := hO2.blk.cell 1
    have hsl := Sl.new encI_len (w1.alloc (.cells #[.pointer none, .slice none 0 0] 68)) [st, gd] 3 #[.int .i64 st, .int .i64 gd] rfl
    simp only [World.size_alloc] at hsl
    clear hl hb1 hO hO1 hO2
    have ist : I64 st := i64_of (by omega) (by omega)
    have igd : I64 gd := i64_of (by omega) (by omega)
    have hd60 := pairT_le [100, 97, 121] rfl ist igd
    go_wp2_with fail
    refine (row_any [100, 97, 121] _ 2 2 _ [st, gd] _ hsl (fun z hz => by simp at hz; rcases hz with rfl | rfl <;> assumption) (HP.out.old HW.out.ob.low) (by omega) (by omega)).mono ?_
    rintro e w2 ⟨rfl, hb2⟩
    have HW2 := Lib.hid (HW.out.below hb2)
    clear hb2 hsl HW c0 c1
    go_wp2_with fail
    have hd1 : (dayT st gd).length ≤ 60 := hd60
    refine (wstr_any HW2.out (dayT st gd) (by simp; omega)).mono ?_
    rintro e w3 ⟨⟨v3, rfl⟩, hW3⟩
    have c2 := hW3.ob.blk.cell 2
    have HW3 := Lib.hid (show WB w st gd A n c w1.heap.size (dayT st gd) w3 from hW3)
    clear hW3 HW2
    go_wp2_with fail
    go_loopw [23] (fun i wr => ∃ k : Nat, k ≤ n ∧ i = .int .i64 k ∧ WB w st gd A n c w1.heap.size (dayT st gd ++ salesT (l.take k)) wr) (fun i _ => n - (intOf i).toNat)
    case atStart => exact ⟨0, Nat.zero_le _, rfl, by simpa [salesT] using HW3.out⟩
    case round =>
      obtain ⟨k, hk, rfl, hW⟩ := hrel
      have hzb := hW.size
      have hst := salesT_le hs2 hg2 (l.take k) (fun s hs => HI.out.sales s (List.mem_of_mem_take hs))
      have htl : (l.take k).length ≤ 40 := by rw [List.length_take]; omega
      by_cases hlt : k < n
      · have hk1 : k < l.length := by have := HA.out; omega
        obtain ⟨o, rfl, hbz, s0, s1, s2, s3, s4, s5⟩ := (HL.out.old hW.ob.low).atS hk1
        have hsi := HI.out.sales _ (List.getElem_mem hk1)
        have HS := Lib.hid (salesT_snoc l k hk1)
        generalize l[k] = y at s0 s1 s2 s3 s4 s5 hsi HS
        have hle := saleT_le hsi hs2 hg2
        have HX := Lib.hid (nums_i64 hsi hs2 hg2)
        have HW4 := Lib.hid ((hW.alloc (.cells #[.int .i64 y.st, .int .i64 y.gd, .int .i64 y.gl, .int .i64 y.gh, .int .i64 y.cl, .int .i64 y.ch] 59)).alloc (.cells #[.int .i64 y.st, .int .i64 y.gd, .int .i64 y.gl, .int .i64 y.gh, .int .i64 y.cl, .int .i64 y.ch] 3))
        have hsl := Sl.new encI_len (wr.alloc (.cells #[.int .i64 y.st, .int .i64 y.gd, .int .i64 y.gl, .int .i64 y.gh, .int .i64 y.cl, .int .i64 y.ch] 59)) (nums y) 3 #[.int .i64 y.st, .int .i64 y.gd, .int .i64 y.gl, .int .i64 y.gh, .int .i64 y.cl, .int .i64 y.ch] rfl
        simp only [World.size_alloc] at hsl
        have HSL := Lib.hid hsl
        clear hsl hsi hW
        go_wp2_with fail
        refine (row_any [115, 97, 108, 101] _ 6 6 _ (nums y) _ HSL.out HX.out (HP.out.old HW4.out.ob.low) (by omega) (show (saleT y).length ≤ 1000000 by omega)).mono ?_
        rintro e w4 ⟨rfl, hb4⟩
        have HW5 := Lib.hid (HW4.out.below hb4)
        clear hb4 HW4 HSL
        go_wp2_with fail
        refine (wstr_any HW5.out (saleT y) (by rw [List.length_append]; omega)).mono ?_
        rintro e w5 ⟨⟨v5, rfl⟩, hW6⟩
        have HW6 := Lib.hid hW6
        clear hW6 HW5
        go_wp2_with fail
        go_roundw
        case rel => exact ⟨k + 1, by omega, by go_num, by rw [HS.out, ← List.append_assoc]; exact HW6.out⟩
        case measure => simp [intOf]; omega
      · have hkl : l.take k = l := List.take_of_length_le (by have := HA.out; omega)
        rw [hkl] at hW hst htl
        have HW4 := Lib.hid hW.drew
        obtain ⟨q0, q1⟩ := press_bd (s := 7) (by omega) (by omega) ([st, gd] ++ l.flatMap nums)
        have HN := Lib.hid (show endT (n : Int) (sealOf st gd l) = endT (l.length : Int) (sealOf st gd l) by rw [HA.out])
        have isl : I64 (sealOf st gd l) := i64_of q0 (by unfold sealOf; omega)
        have inn : I64 (n : Int) := i64_of (by omega) (by omega)
        have he60 := pairT_le [101, 110, 100] rfl inn isl
        have hle : (dayT st gd ++ salesT l).length ≤ 10000 := by rw [List.length_append]; omega
        obtain ⟨sl, hsl⟩ : ∃ q, q = sealOf st gd l := ⟨_, rfl⟩
        rw [← hsl] at isl he60 HN
        have HQ := Lib.hid hsl
        have g0 := HW4.out.ob.blk.cell 0
        clear hW q0 q1 hsl g0 c2 hkl
        go_upto_region 11 with fail
        refine wp_region_PL [1, 3] (fun w' => w'.cell? ⟨w.heap.size, 0, none⟩ = some (.int .i64 st) ∧ w'.cell? ⟨w.heap.size, 1, none⟩ = some (.int .i64 gd) ∧ w'.cell? ⟨w.heap.size, 2, none⟩ = some (.slice A n c)) rfl (by kernel_rfl) (⟨HW4.out.ob.blk.cell 0, HW4.out.ob.blk.cell 1, HW4.out.ob.blk.cell 2⟩) (fun hF0 => ?_)
        (refine wpAnyP_takeL (i := 0) (v := ?_) rfl (by kernel_rfl) (by kernel_rfl) (by kernel_rfl) (fun _ _ _ h => h) (by rfl) ?_ ?_; rotate_left 1; focus (intro w; go_simp; try with_reducible rfl))
        try simp only [Act.put, List.setIfInBounds_toArray, List.set_cons_zero, List.set_cons_succ]
        (refine wpAnyP_loadL (i := 1) (v := ?_) rfl (by kernel_rfl) (by kernel_rfl) (by kernel_rfl) (by rfl) (fun _ _ _ h => h) hF0 (by rfl) ?_ ?_; rotate_left 1; focus (intro w hFw; (try dsimp only at hFw); go_split_ands; go_simp; try with_reducible rfl))
        try simp only [Act.put, List.setIfInBounds_toArray, List.set_cons_zero, List.set_cons_succ]
        (refine wpAnyP_takeL (i := 2) (v := ?_) rfl (by kernel_rfl) (by kernel_rfl) (by kernel_rfl) (fun _ _ _ h => h) (by rfl) ?_ ?_; rotate_left 1; focus (intro w; go_simp; try with_reducible rfl))
        try simp only [Act.put, List.setIfInBounds_toArray, List.set_cons_zero, List.set_cons_succ]
        (refine wpAnyP_loadL (i := 3) (v := ?_) rfl (by kernel_rfl) (by kernel_rfl) (by kernel_rfl) (by rfl) (fun _ _ _ h => h) hF0 (by rfl) ?_ ?_; rotate_left 1; focus (intro w hFw; (try dsimp only at hFw); go_split_ands; go_simp; try with_reducible rfl))
        try simp only [Act.put, List.setIfInBounds_toArray, List.set_cons_zero, List.set_cons_succ]
        refine wpAnyP_step (i := 4) rfl (by kernel_rfl) (by rfl) (fun K hK => ?_)
        go_simp
        (refine (sealOf_any st gd b n c A l _ (HL.out.old HW4.out.ob.low) HI.out).mono ?_; rw [← HQ.out]; rintro e w5 ⟨rfl, hb5⟩; have HW5 := Lib.hid (HW4.out.below hb5); clear hb5)
        (refine hK _ _ (⟨HW5.out.ob.blk.cell 0, HW5.out.ob.blk.cell 1, HW5.out.ob.blk.cell 2⟩) (fun hF1 => ?_); clear hK K hF0)
        try simp only [Act.put, List.setIfInBounds_toArray, List.set_cons_zero, List.set_cons_succ]
        refine wpAnyP_step (i := 5) rfl (by kernel_rfl) (by rfl) (fun K hK => ?_)
        go_simp
        (have HW6 := Lib.hid (HW5.out.alloc (.cells #[.int .i64 n, .int .i64 sl] 3)); have HSL := Lib.hid (Sl.new encI_len w5 [(n : Int), sl] 3 #[.int .i64 n, .int .i64 sl] rfl))
        (refine hK _ _ (⟨HW6.out.ob.blk.cell 0, HW6.out.ob.blk.cell 1, HW6.out.ob.blk.cell 2⟩) (fun hF2 => ?_); clear hK K hF1)
        try simp only [Act.put, List.setIfInBounds_toArray, List.set_cons_zero, List.set_cons_succ]
        refine wpAnyP_step (i := 6) rfl (by kernel_rfl) (by rfl) (fun K hK => ?_)
        go_simp
        (refine (row_any [101, 110, 100] _ 2 2 _ [(n : Int), sl] _ HSL.out (fun z hz => (by simp at hz; rcases hz with rfl | rfl <;> assumption)) (HP.out.old HW6.out.ob.low) (by omega) (by omega)).mono ?_; rintro e w7 ⟨rfl, hb7⟩; have HW7 := Lib.hid (HW6.out.below hb7); clear hb7)
        (refine hK _ _ (⟨HW7.out.ob.blk.cell 0, HW7.out.ob.blk.cell 1, HW7.out.ob.blk.cell 2⟩) (fun hF3 => ?_); clear hK K hF2)
        try simp only [Act.put, List.setIfInBounds_toArray, List.set_cons_zero, List.set_cons_succ]
        refine wpAnyP_step (i := 7) rfl (by kernel_rfl) (by rfl) (fun K hK => ?_)
        go_simp
        (refine (wstr_any HW7.out (endT (n : Int) sl) (by have h9 : (endT (n : Int) sl).length ≤ 60 := he60; omega)).mono ?_; rintro e w8 ⟨⟨v8, rfl⟩, hW8⟩; have HW8 := Lib.hid hW8; clear hW8)
        (refine hK _ _ (⟨HW8.out.ob.blk.cell 0, HW8.out.ob.blk.cell 1, HW8.out.ob.blk.cell 2⟩) (fun hF4 => ?_); clear hK K hF3)
        try simp only [Act.put, List.setIfInBounds_toArray, List.set_cons_zero, List.set_cons_succ]
        refine wpAnyP_done (by kernel_rfl) ?_ _
        go_wp2_with fail
        refine (wend_any HW8.out).mono ?_
        rintro e w9 ⟨rfl, hO9⟩
        have HO9 := Lib.hid hO9
        clear hO9
        go_wp2_with fail
        go_ret2
        exact ⟨by rw [HT.out, HC.out, HN.out, HQ.out, writeT, List.append_assoc]; rfl, HO9.out.low⟩
  · have HC := Lib.hid hc
    have HT := Lib.hid (show textOf st gd l = [] from if_neg hc)
    go_enter Tryz.func8, Tryz.ntmps8
    go_wp2_with fail
    refine (check_any st gd b n c A l _ (hl.alloc _) hn).mono ?_
    rintro e w1 ⟨rfl, hb1⟩
    have HO1 := Lib.hid (hO.below hb1)
    have hne : (check st gd l != 0) = true := by simpa using HC.out
    clear hl hb1 hO
    go_wp2_with fail
    go_ret2
    exact ⟨by rw [HT.out]; rfl, HO1.out.low⟩
end Go.Proofs.YtjmppionedcfeaaGreatDoor
