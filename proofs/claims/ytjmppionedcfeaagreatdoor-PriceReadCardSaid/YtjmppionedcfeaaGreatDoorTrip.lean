/-
  What is written is read again, and what is read is written as it was: plain laws.
-/
import Derived.Test.YtjmppionedcfeaaGreatDoorReadLaw
import Derived.Test.YtjmppionedcfeaaGreatDoorWriteW
set_option linter.unusedVariables false
set_option linter.unusedSimpArgs false
namespace Go.Proofs.YtjmppionedcfeaaGreatDoor

def rowN (wd : List UInt8) (l : List Int) : List UInt8 := wd ++ numsT l
theorem rowT_eq (wd : List UInt8) (l : List Int) : rowT wd l = rowN wd l ++ [10] := rfl
theorem dec_len : ∀ (k n : Nat), n < 10 ^ (k + 1) → (Lib.decDigits n).length ≤ k + 1
  | 0, n, h => by rw [Lib.decDigits, dif_pos (by omega)]; simp
  | k + 1, n, h => by
    by_cases hn : n < 10
    · rw [Lib.decDigits, dif_pos hn]; simp
    · have h2 : n / 10 < 10 ^ (k + 1) := by rw [Nat.pow_succ] at h; omega
      have := dec_len k (n / 10) h2
      rw [Lib.decDigits, dif_neg hn, List.length_append, List.length_singleton]
      omega
theorem num_itoa {n : Int} (h0 : 0 ≤ n) (h1 : n < 1000000) : numT 6 (Lib.itoa n) = some n.toNat := by
  obtain ⟨k, rfl⟩ := Int.eq_ofNat_of_zero_le h0
  rw [Lib.itoa_nonneg]
  exact numT_iff.2 ⟨rfl, dec_len 5 k (by omega)⟩
theorem dig_no {b c : UInt8} (h : isDig b = true) (hc : c.toNat < 48) : b ≠ c := by
  rintro rfl
  simp only [isDig, Bool.and_eq_true, decide_eq_true_eq] at h
  omega
theorem itoa_no {n : Int} (h0 : 0 ≤ n) {c : UInt8} (hc : c.toNat < 48) : c ∉ Lib.itoa n := by
  obtain ⟨k, rfl⟩ := Int.eq_ofNat_of_zero_le h0
  rw [Lib.itoa_nonneg]
  intro h
  have := (dec_dig k).1
  rw [List.all_eq_true] at this
  exact dig_no (this c h) hc rfl
def Small6 (l : List Int) : Prop := ∀ x ∈ l, 0 ≤ x ∧ x < 1000000
theorem numsT_no {l : List Int} (h : Small6 l) : (10 : UInt8) ∉ numsT l := by
  intro hc
  unfold numsT at hc
  obtain ⟨n, hn, hc⟩ := List.mem_flatMap.1 hc
  rcases List.mem_cons.1 hc with hc | hc
  · exact absurd hc (by decide)
  · exact itoa_no (h n hn).1 (by decide) hc
theorem split_words (wd : List UInt8) (hw : (32 : UInt8) ∉ wd) : ∀ (l : List Int), Small6 l → splitT 32 (rowN wd l) = wd :: l.map Lib.itoa := by
  have main : ∀ (l : List Int), Small6 l → ∀ p : List UInt8, (32 : UInt8) ∉ p → splitT 32 (p ++ numsT l) = p :: l.map Lib.itoa := by
    intro l
    induction l with
    | nil => intro _ p hp; rw [show numsT [] = [] from rfl, List.append_nil, splitT_none hp]; rfl
    | cons x r ih =>
      intro h p hp
      have h1 : numsT (x :: r) = 32 :: (Lib.itoa x ++ numsT r) := by simp [numsT]
      rw [h1, splitT_hit hp, ih (fun y hy => h y (List.mem_cons_of_mem _ hy)) _ (itoa_no (h x List.mem_cons_self).1 (by decide))]
      rfl
  exact fun l h => main l h wd hw
theorem parse_row (wd : List UInt8) (hw : (32 : UInt8) ∉ wd) (l : List Int) (h : Small6 l) : parseT (rowN wd l) = some (wd, l) := by
  unfold parseT
  rw [split_words wd hw l h]
  have h1 : (l.map Lib.itoa).all okW = true := by
    rw [List.all_eq_true]
    intro y hy
    obtain ⟨n, hn, rfl⟩ := List.mem_map.1 hy
    unfold okW
    rw [num_itoa (h n hn).1 (h n hn).2]
    rfl
  have h2 : (l.map Lib.itoa).map valW = l := by
    rw [List.map_map]
    conv => rhs; rw [← List.map_id l]
    refine List.map_congr_left fun n hn => ?_
    show valW (Lib.itoa n) = n
    unfold valW
    rw [num_itoa (h n hn).1 (h n hn).2]
    have := (h n hn).1
    simp
    omega
  simp only [h1, if_true, h2]
theorem split_rows : ∀ (rows : List (List UInt8)), (∀ r ∈ rows, (10 : UInt8) ∉ r) → splitT 10 (rows.flatMap (· ++ [10])) = rows ++ [[]]
  | [], _ => rfl
  | r :: rs, h => by
    have ih := split_rows rs (fun y hy => h y (List.mem_cons_of_mem _ hy))
    rw [List.flatMap_cons, List.append_assoc, List.singleton_append, splitT_hit (h r List.mem_cons_self), ih]
    rfl
def rowsOf (st gd : Int) (l : List Sale) (s : Int) : List (List UInt8) := rowN wDay [st, gd] :: (l.map (fun x => rowN wSale (nums x)) ++ [rowN wEnd [(l.length : Int), s]])
theorem write_rows (st gd : Int) (l : List Sale) : writeT st gd l = (rowsOf st gd l (sealOf st gd l)).flatMap (· ++ [10]) := by
  unfold writeT rowsOf dayT endT salesT
  simp only [List.flatMap_cons, List.flatMap_append, List.flatMap_nil, List.append_nil, rowT_eq, wDay, wEnd]
  rw [List.append_assoc]
  congr 2
  induction l with
  | nil => rfl
  | cons x r ih => simp only [List.flatMap_cons, List.map_cons, ih]; rfl
theorem small_nums {st gd : Int} {s : Sale} (h : SaleIn st gd s) (hs : st ≤ 8) (hg : gd ≤ 8) : Small6 (nums s) := fun x hx => by
  have := h.nums_bd hs hg x hx
  omega
theorem sale_nums (s : Sale) : saleOfL (nums s) = s := rfl
theorem step_day {st gd : Int} (h : Small6 [st, gd]) : stepR 0 .init (rowN wDay [st, gd]) = some ⟨st, gd, [], false, 0⟩ := by
  unfold stepR
  rw [parse_row wDay (by decide) _ h]
  rfl
theorem step_sale {i : Nat} {s : RS} {x : Sale} (hi : i ≠ 0) (he : s.en = false) (h : Small6 (nums x)) : stepR i s (rowN wSale (nums x)) = some { s with l := s.l ++ [x] } := by
  unfold stepR
  rw [parse_row wSale (by decide) _ h]
  have h1 : ¬ wSale = wDay := by decide
  simp only [stepW, he, Bool.false_eq_true, if_false, if_neg hi, if_neg h1]
  rw [if_pos ⟨trivial, rfl⟩, sale_nums]
theorem step_end {i : Nat} {s : RS} {x : Int} (hi : i ≠ 0) (he : s.en = false) (h : Small6 [(s.l.length : Int), x]) : stepR i s (rowN wEnd [(s.l.length : Int), x]) = some { s with en := true, se := x } := by
  unfold stepR
  rw [parse_row wEnd (by decide) _ h]
  have h1 : ¬ wEnd = wDay := by decide
  have h2 : ¬ (wEnd = wSale ∧ ([(s.l.length : Int), x] : List Int).length = 6) := by rintro ⟨h, _⟩; exact absurd h (by decide)
  simp only [stepW, he, Bool.false_eq_true, if_false, if_neg hi, if_neg h1, if_neg h2]
  rw [if_pos ⟨trivial, rfl, rfl⟩]
  rfl
theorem run_sales : ∀ (l : List Sale) (i : Nat) (s : RS) (x : Int), i ≠ 0 → s.en = false → (∀ y ∈ l, Small6 (nums y)) → Small6 [((s.l ++ l).length : Int), x] →
    runR i s (l.map (fun y => rowN wSale (nums y)) ++ [rowN wEnd [((s.l ++ l).length : Int), x]]) = .inl { s with l := s.l ++ l, en := true, se := x }
  | [], i, s, x, hi, he, _, h2 => by
    rw [List.append_nil] at h2 ⊢
    rw [List.map_nil, List.nil_append, runR, step_end hi he h2]
    simp [runR]
  | y :: r, i, s, x, hi, he, h1, h2 => by
    rw [List.map_cons, List.cons_append, runR, step_sale hi he (h1 y List.mem_cons_self)]
    have ih := run_sales r (i + 1) { s with l := s.l ++ [y] } x (by omega) he (fun z hz => h1 z (List.mem_cons_of_mem _ hz)) (by simpa using h2)
    simp only [List.append_assoc, List.singleton_append] at ih
    exact ih
theorem run_rows {st gd : Int} {l : List Sale} {x : Int} (h0 : Small6 [st, gd]) (h1 : ∀ y ∈ l, Small6 (nums y)) (h2 : Small6 [(l.length : Int), x]) : runR 0 .init (rowsOf st gd l x) = .inl ⟨st, gd, l, true, x⟩ := by
  unfold rowsOf
  rw [runR, step_day h0]
  have := run_sales l 1 ⟨st, gd, [], false, 0⟩ x (by omega) rfl h1 (by simpa using h2)
  simpa using this
theorem numsT_six : ∀ (l : List Int), Small6 l → (numsT l).length ≤ 7 * l.length
  | [], _ => by simp [numsT]
  | x :: r, h => by
    have h1 := numsT_six r (fun y hy => h y (List.mem_cons_of_mem _ hy))
    have h2 := (numT_iff.1 (num_itoa (h x List.mem_cons_self).1 (h x List.mem_cons_self).2)).2
    have h4 : numsT (x :: r) = (32 :: Lib.itoa x) ++ numsT r := by simp [numsT]
    rw [h4, List.length_append, List.length_cons, List.length_cons]
    omega
theorem sales_six {st gd : Int} (hs : st ≤ 8) (hg : gd ≤ 8) : ∀ (l : List Sale), (∀ s ∈ l, SaleIn st gd s) → (salesT l).length ≤ 47 * l.length
  | [], _ => by simp [salesT]
  | s :: r, h => by
    have h1 := sales_six hs hg r (fun y hy => h y (List.mem_cons_of_mem _ hy))
    have h2 := numsT_six (nums s) (small_nums (h s List.mem_cons_self) hs hg)
    have h4 : salesT (s :: r) = saleT s ++ salesT r := by simp [salesT]
    have h5 : (nums s).length = 6 := rfl
    rw [h4, List.length_append, List.length_cons, saleT, rowT_len]
    simp
    omega
theorem textOf_len (st gd : Int) (l : List Sale) : (textOf st gd l).length ≤ 3000 := by
  by_cases hc : check st gd l = 0
  · obtain ⟨hs1, hs2, hg1, hg2, hlen, hsal⟩ := check_zero.1 hc
    obtain ⟨q0, q1⟩ := press_bd (s := 7) (by omega) (by omega) ([st, gd] ++ l.flatMap nums)
    have hq : 0 ≤ sealOf st gd l ∧ sealOf st gd l < 1000000 := by unfold sealOf; omega
    have h0 : Small6 [st, gd] := fun x hx => by simp at hx; omega
    have h2 : Small6 [(l.length : Int), sealOf st gd l] := fun x hx => by simp at hx; omega
    have ht : textOf st gd l = writeT st gd l := if_pos hc
    have e1 := sales_six hs2 hg2 l hsal
    have e2 := numsT_six _ h0
    have e3 := numsT_six _ h2
    rw [ht]
    unfold writeT dayT endT
    rw [List.length_append, List.length_append, rowT_len, rowT_len]
    simp at e2 e3 ⊢
    omega
  · rw [show textOf st gd l = [] from if_neg hc]
    simp
/-- what is written is read again -/
theorem read_write {st gd : Int} {l : List Sale} (hc : check st gd l = 0) : readT (textOf st gd l) = ⟨st, gd, l, 0, 0⟩ := by
  have hin := check_zero.1 hc
  obtain ⟨hs1, hs2, hg1, hg2, hlen, hsal⟩ := hin
  obtain ⟨q0, q1⟩ := press_bd (s := 7) (by omega) (by omega) ([st, gd] ++ l.flatMap nums)
  have hq : 0 ≤ sealOf st gd l ∧ sealOf st gd l < 1000000 := by unfold sealOf; omega
  have h0 : Small6 [st, gd] := fun x hx => by simp at hx; omega
  have h1 : ∀ y ∈ l, Small6 (nums y) := fun y hy => small_nums (hsal y hy) hs2 hg2
  have h2 : Small6 [(l.length : Int), sealOf st gd l] := fun x hx => by simp at hx; omega
  have ht : textOf st gd l = writeT st gd l := if_pos hc
  have hx := textOf_len st gd l
  have hno : ∀ r ∈ rowsOf st gd l (sealOf st gd l), (10 : UInt8) ∉ r := by
    have hh : ∀ (wd : List UInt8) (n : List Int), (10 : UInt8) ∉ wd → Small6 n → (10 : UInt8) ∉ rowN wd n := fun wd n hw hn hc => by
      rcases List.mem_append.1 hc with h | h
      · exact hw h
      · exact numsT_no hn h
    intro r hr
    unfold rowsOf at hr
    rcases List.mem_cons.1 hr with rfl | hr
    · exact hh _ _ (by decide) h0
    · rcases List.mem_append.1 hr with hr | hr
      · obtain ⟨y, hy, rfl⟩ := List.mem_map.1 hr
        exact hh _ _ (by decide) (h1 y hy)
      · rw [List.mem_singleton.1 hr]
        exact hh _ _ (by decide) h2
  have hsp : splitT 10 (textOf st gd l) = rowsOf st gd l (sealOf st gd l) ++ [[]] := by rw [ht, write_rows, split_rows _ hno]
  refine (readT_ok (s := ⟨st, gd, l, true, sealOf st gd l⟩) hx ?_ ?_ hc rfl).trans rfl
  · rw [hsp, List.length_append, List.length_singleton, Nat.add_sub_cancel, List.take_left', run_rows h0 h1 h2]
    rfl
  · rw [hsp]
    simp [List.getD]
theorem split_join (c : UInt8) : ∀ (s p : List UInt8) (ps : List (List UInt8)), splitT c s = p :: ps → s = p ++ ps.flatMap (c :: ·)
  | [], p, ps, h => by
    simp only [splitT, List.cons.injEq] at h
    obtain ⟨rfl, rfl⟩ := h
    rfl
  | x :: r, p, ps, h => by
    unfold splitT at h
    split at h
    · rename_i hx
      simp only [List.cons.injEq] at h
      obtain ⟨rfl, rfl⟩ := h
      cases hr : splitT c r with
      | nil => exact absurd hr (splitT_ne c r)
      | cons q qs =>
        have := split_join c r q qs hr
        subst hx
        rw [List.flatMap_cons, List.nil_append, this]
        simp
    · split at h
      · rename_i hr
        exact absurd hr (splitT_ne c r)
      · rename_i q qs hr
        simp only [List.cons.injEq] at h
        obtain ⟨rfl, rfl⟩ := h
        have := split_join c r q qs hr
        rw [List.cons_append, ← this]
theorem words_back : ∀ (ws : List (List UInt8)), ws.all okW = true → ws.flatMap ((32 : UInt8) :: ·) = numsT (ws.map valW)
  | [], _ => rfl
  | w :: r, h => by
    rw [List.all_cons, Bool.and_eq_true] at h
    have h1 := words_back r h.2
    obtain ⟨n, hn⟩ : ∃ n, numT 6 w = some n := by have := h.1; unfold okW at this; exact Option.isSome_iff_exists.1 this
    have h2 : Lib.itoa (valW w) = w := by
      unfold valW
      rw [hn]
      show Lib.itoa ((n : Nat) : Int) = w
      rw [Lib.itoa_nonneg]
      exact (numT_iff.1 hn).1.symm
    rw [List.flatMap_cons, h1, List.map_cons]
    simp [numsT, h2]
theorem parse_inv {r wd : List UInt8} {l : List Int} (h : parseT r = some (wd, l)) : r = rowN wd l := by
  unfold parseT at h
  cases hs : splitT 32 r with
  | nil => exact absurd hs (splitT_ne 32 r)
  | cons w ws =>
    rw [hs] at h
    by_cases ha : ws.all okW = true
    · simp only [ha, if_true, Option.some.injEq, Prod.mk.injEq] at h
      obtain ⟨rfl, rfl⟩ := h
      rw [split_join 32 r w ws hs, words_back ws ha]
      rfl
    · simp [ha] at h
theorem rows_join : ∀ (R : List (List UInt8)) (p : List UInt8) (ps : List (List UInt8)), p :: ps = R ++ [[]] → p ++ ps.flatMap ((10 : UInt8) :: ·) = R.flatMap (· ++ [10])
  | [], p, ps, h => by
    simp only [List.nil_append, List.cons.injEq] at h
    obtain ⟨rfl, rfl⟩ := h
    rfl
  | r :: R, p, ps, h => by
    simp only [List.cons_append, List.cons.injEq] at h
    obtain ⟨rfl, h⟩ := h
    cases ps with
    | nil => simp at h
    | cons q qs =>
      have := rows_join R q qs h
      rw [List.flatMap_cons, List.flatMap_cons, ← this]
      simp
theorem saleOfL_nums {l : List Int} (h : l.length = 6) : nums (saleOfL l) = l := by
  match l, h with
  | [a, b, c, d, e, f], _ => rfl
theorem run_en {i : Nat} {s s' : RS} {rows : List (List UInt8)} (he : s.en = true) (h : runR i s rows = .inl s') : rows = [] ∧ s' = s := by
  cases rows with
  | nil => simp only [runR, Sum.inl.injEq] at h; exact ⟨rfl, h.symm⟩
  | cons r rs =>
    have : stepR i s r = none := by
      unfold stepR
      cases parseT r with
      | none => rfl
      | some q => obtain ⟨wd, l⟩ := q; simp [stepW, he]
    rw [runR, this] at h
    cases h
theorem inv_sales : ∀ (rows : List (List UInt8)) (i : Nat) (s s' : RS), i ≠ 0 → s.en = false → runR i s rows = .inl s' → s'.en = true →
    ∃ new, s'.l = s.l ++ new ∧ s'.st = s.st ∧ s'.gd = s.gd ∧ rows = new.map (fun y => rowN wSale (nums y)) ++ [rowN wEnd [(s'.l.length : Int), s'.se]]
  | [], i, s, s', hi, he, h, he' => by
    simp only [runR, Sum.inl.injEq] at h
    subst h
    rw [he] at he'
    cases he'
  | r :: rs, i, s, s', hi, he, h, he' => by
    rw [runR] at h
    cases hst : stepR i s r with
    | none => rw [hst] at h; cases h
    | some s1 =>
      rw [hst] at h
      simp only at h
      unfold stepR at hst
      cases hp : parseT r with
      | none => rw [hp] at hst; cases hst
      | some q =>
        obtain ⟨wd, l⟩ := q
        rw [hp] at hst
        have hr := parse_inv hp
        simp only [stepW, he, Bool.false_eq_true, if_false, if_neg hi] at hst
        split at hst
        · cases hst
        · split at hst
          · rename_i hw
            obtain ⟨rfl, hl⟩ := hw
            simp only [Option.some.injEq] at hst
            subst hst
            obtain ⟨new, h1, h2, h3, h4⟩ := inv_sales rs (i + 1) { s with l := s.l ++ [saleOfL l] } s' (by omega) he (by simpa only [he] using h) he'
            simp only at h1 h2 h3
            refine ⟨saleOfL l :: new, by rw [h1]; simp, h2, h3, ?_⟩
            rw [List.map_cons, List.cons_append, saleOfL_nums hl, ← hr, ← h4]
          · split at hst
            · rename_i hw
              obtain ⟨rfl, hl, h0⟩ := hw
              simp only [Option.some.injEq] at hst
              subst hst
              obtain ⟨rfl, rfl⟩ := run_en rfl h
              refine ⟨[], by simp, rfl, rfl, ?_⟩
              match l, hl with
              | [a, b], _ =>
                simp only [at0, List.getD_cons_zero, List.getD_cons_succ] at h0 ⊢
                rw [hr, h0]
                rfl
            · cases hst
theorem inv_rows {rows : List (List UInt8)} {s : RS} (h : runR 0 .init rows = .inl s) (he : s.en = true) : rows = rowsOf s.st s.gd s.l s.se := by
  cases rows with
  | nil =>
    simp only [runR, Sum.inl.injEq] at h
    subst h
    cases he
  | cons r rs =>
    rw [runR] at h
    cases hst : stepR 0 .init r with
    | none => rw [hst] at h; cases h
    | some s1 =>
      rw [hst] at h
      simp only at h
      unfold stepR at hst
      cases hp : parseT r with
      | none => rw [hp] at hst; cases hst
      | some q =>
        obtain ⟨wd, l⟩ := q
        rw [hp] at hst
        have hr := parse_inv hp
        simp only [stepW, RS.init, Bool.false_eq_true, if_false, if_true] at hst
        split at hst
        · rename_i hw
          obtain ⟨rfl, hl⟩ := hw
          simp only [Option.some.injEq] at hst
          subst hst
          obtain ⟨new, h1, h2, h3, h4⟩ := inv_sales rs 1 _ s (by omega) rfl h he
          simp only [List.nil_append] at h1
          simp only at h2 h3
          unfold rowsOf
          rw [h4, hr, h2, h3, ← h1]
          match l, hl with
          | [a, b], _ => rfl
        · cases hst
/-- what is read is written as it was -/
theorem write_read {x : List UInt8} (h : (readT x).er = 0) : check (readT x).st (readT x).gd (readT x).l = 0 ∧ textOf (readT x).st (readT x).gd (readT x).l = x := by
  by_cases hx : 3000 < x.length
  · unfold readT at h
    rw [if_pos hx] at h
    cases h
  have hx' : x.length ≤ 3000 := by omega
  cases hr : runR 0 .init ((splitT 10 x).take ((splitT 10 x).length - 1)) with
  | inr i =>
    rw [readT_err hx' hr] at h
    cases h
  | inl s =>
    by_cases he : s.en = false ∨ (splitT 10 x).getD ((splitT 10 x).length - 1) [] ≠ []
    · rw [readT_open hx' hr he] at h
      cases h
    · by_cases hc : check s.st s.gd s.l = 0
      · by_cases hs : sealOf s.st s.gd s.l = s.se
        · rw [readT_ok hx' hr he hc hs]
          refine ⟨hc, ?_⟩
          show textOf s.st s.gd s.l = x
          unfold textOf
          rw [if_pos hc, write_rows]
          simp only [not_or, Bool.not_eq_false, ne_eq, Decidable.not_not] at he
          have hrows := inv_rows hr he.1
          rw [hs, ← hrows]
          cases hsp : splitT 10 x with
          | nil => exact absurd hsp (splitT_ne 10 x)
          | cons p ps =>
            rw [hsp] at he
            have hL : p :: ps = (p :: ps).take ((p :: ps).length - 1) ++ [[]] := by
              have h1 : (p :: ps).length - 1 < (p :: ps).length := by simp
              have h2 : (p :: ps)[(p :: ps).length - 1] = [] := by
                have := he.2
                rw [List.getD_eq_getElem?_getD, List.getElem?_eq_getElem h1] at this
                exact this
              have h3 := List.take_succ_eq_append_getElem h1
              rw [h2, show (p :: ps).length - 1 + 1 = (p :: ps).length by simp, List.take_length] at h3
              exact h3
            rw [← rows_join _ p ps hL]
            exact (split_join 10 x p ps hsp).symm
        · rw [readT_seal hx' hr he hc hs] at h
          cases h
      · rw [readT_bad hx' hr he hc] at h
        exact absurd h hc
/-- a text that is refused has no sale -/
theorem read_none {x : List UInt8} (h : (readT x).er ≠ 0) : (readT x).l = [] := by
  unfold readT at h ⊢
  split
  · rfl
  · rename_i hx
    rw [if_neg hx] at h
    split
    · rfl
    · rename_i s hs
      rw [hs] at h
      simp only at h ⊢
      split
      · rfl
      · rename_i h1
        rw [if_neg h1] at h
        split
        · rfl
        · rename_i h2
          rw [if_neg h2] at h
          split
          · rfl
          · rename_i h3
            rw [if_neg h3] at h
            exact absurd rfl h
theorem readT_len (x : List UInt8) : (readT x).l.length ≤ 60 := by
  by_cases h : (readT x).er = 0
  · have h1 := (check_zero.1 (write_read h).1).len
    omega
  · rw [read_none h]
    simp
end Go.Proofs.YtjmppionedcfeaaGreatDoor
