/-
  What is written of a net is read again, and what is read is written as it was: plain laws. SameNets of the kit. The walk of the law TraceTape.
-/
import Derived.Test.YtkphgdkjjklajaaGreatDoorTrReadLaw
import Derived.Test.YtkphgdkjjklajaaGreatDoorTrEdges
import Derived.Test.YtkphgdkjjklajaaGreatDoorTrNetL
import Derived.Test.YtkphgdkjjklajaaGreatDoorSame
import Derived.Deep.QuietTactic
import Derived.Deep.CutRange
import Derived.BigQuiet
import Derived.Test.YtkphgdkjjklajaaGreatDoorTrLaw
import Derived.Test.YtkphgdkjjklajaaGreatDoorTrAwk
import Derived.Test.YtkphgdkjjklajaaGreatDoorTrWrite
import Derived.Test.YtkphgdkjjklajaaGreatDoorTrRead
set_option linter.unusedVariables false
set_option linter.unusedSimpArgs false
namespace Go.Proofs.YtkphgdkjjklajaaGreatDoor

def rowN (wd : List UInt8) (l : List Int) : List UInt8 := wd ++ numsT l
theorem rowT_eq (wd : List UInt8) (l : List Int) : rowT wd l = rowN wd l ++ [10] := rfl
theorem dec_len : ∀ (k n : Nat), n < 10 ^ (k + 1) → (Lib.decDigits n).length ≤ k + 1
  | 0, n, h => by rw [Lib.decDigits, dif_pos (by omega)]; simp
  | k + 1, n, h => by
    by_cases hn : n < 10
    · rw [Lib.decDigits, dif_pos hn]; simp
    · have h2 : n / 10 < 10 ^ (k + 1) := by rw [Nat.pow_succ] at h; omega
      have := dec_len k (n / 10) h2
      rw [Lib.decDigits, dif_neg hn, List.length_append, List.length_singleton]
      omega
theorem num_itoa {n : Int} (h0 : 0 ≤ n) (h1 : n < 10000000) : numT 7 (Lib.itoa n) = some n.toNat := by
  obtain ⟨k, rfl⟩ := Int.eq_ofNat_of_zero_le h0
  rw [Lib.itoa_nonneg]
  exact numT_iff.2 ⟨rfl, dec_len 6 k (by omega)⟩
theorem dig_no {b c : UInt8} (h : isDig b = true) (hc : c.toNat < 48) : b ≠ c := by
  rintro rfl
  simp only [isDig, Bool.and_eq_true, decide_eq_true_eq] at h
  omega
theorem itoa_no {n : Int} (h0 : 0 ≤ n) {c : UInt8} (hc : c.toNat < 48) : c ∉ Lib.itoa n := by
  obtain ⟨k, rfl⟩ := Int.eq_ofNat_of_zero_le h0
  rw [Lib.itoa_nonneg]
  intro h
  have := (dec_dig k).1
  rw [List.all_eq_true] at this
  exact dig_no (this c h) hc rfl
def Small7 (l : List Int) : Prop := ∀ x ∈ l, 0 ≤ x ∧ x < 10000000
theorem numsT_no {l : List Int} (h : Small7 l) : (10 : UInt8) ∉ numsT l := by
  intro hc
  unfold numsT at hc
  obtain ⟨n, hn, hc⟩ := List.mem_flatMap.1 hc
  rcases List.mem_cons.1 hc with hc | hc
  · exact absurd hc (by decide)
  · exact itoa_no (h n hn).1 (by decide) hc
theorem split_words (wd : List UInt8) (hw : (32 : UInt8) ∉ wd) : ∀ (l : List Int), Small7 l → splitT 32 (rowN wd l) = wd :: l.map Lib.itoa := by
  have main : ∀ (l : List Int), Small7 l → ∀ p : List UInt8, (32 : UInt8) ∉ p → splitT 32 (p ++ numsT l) = p :: l.map Lib.itoa := by
    intro l
    induction l with
    | nil => intro _ p hp; rw [show numsT [] = [] from rfl, List.append_nil, splitT_none hp]; rfl
    | cons x r ih =>
      intro h p hp
      have h1 : numsT (x :: r) = 32 :: (Lib.itoa x ++ numsT r) := by simp [numsT]
      rw [h1, splitT_hit hp, ih (fun y hy => h y (List.mem_cons_of_mem _ hy)) _ (itoa_no (h x List.mem_cons_self).1 (by decide))]
      rfl
  exact fun l h => main l h wd hw
theorem step_row {s : NS} (he : s.en = false) (wd : List UInt8) (hw : (32 : UInt8) ∉ wd) (l : List Int) (h : Small7 l) : stepN s (rowN wd l) = stepNW s wd l := by
  unfold stepN
  rw [split_words wd hw l h]
  have h1 : (l.map Lib.itoa).all okW7 = true := by
    rw [List.all_eq_true]
    intro y hy
    obtain ⟨n, hn, rfl⟩ := List.mem_map.1 hy
    unfold okW7
    rw [num_itoa (h n hn).1 (h n hn).2]
    rfl
  have h2 : (l.map Lib.itoa).map valW7 = l := by
    rw [List.map_map]
    conv => rhs; rw [← List.map_id l]
    refine List.map_congr_left fun n hn => ?_
    show valW7 (Lib.itoa n) = n
    unfold valW7
    rw [num_itoa (h n hn).1 (h n hn).2]
    have := (h n hn).1
    simp
    omega
  simp only [h1, h2, he, Bool.false_eq_true, if_false, if_true]
theorem split_rows : ∀ (rows : List (List UInt8)), (∀ r ∈ rows, (10 : UInt8) ∉ r) → splitT 10 (rows.flatMap (· ++ [10])) = rows ++ [[]]
  | [], _ => rfl
  | r :: rs, h => by
    have ih := split_rows rs (fun y hy => h y (List.mem_cons_of_mem _ hy))
    rw [List.flatMap_cons, List.append_assoc, List.singleton_append, splitT_hit (h r List.mem_cons_self), ih]
    rfl
def mvL (m : Mv) : List Int := [m.fr, m.to, m.g]
def rBat (g : Int) : List UInt8 := rowN wBat [g]
def rMov (m : Mv) : List UInt8 := rowN wMov (mvL m)
def rFin (n : Int) : List UInt8 := rowN wFin [n]
def rowsOf (bs : List Int) (ms : List Mv) : List (List UInt8) := bs.map rBat ++ (ms.map rMov ++ [rFin (ms.length : Int)])
theorem flat_map_rows {α : Type} (f : α → List UInt8) : ∀ (l : List α), l.flatMap (fun x => f x ++ [10]) = (l.map f).flatMap (· ++ [10])
  | [] => rfl
  | x :: r => by rw [List.flatMap_cons, List.map_cons, List.flatMap_cons, flat_map_rows f r]
theorem trail_rows (bs : List Int) (ms : List Mv) : trailR bs ms = (rowsOf bs ms).flatMap (· ++ [10]) := by
  unfold rowsOf
  rw [List.flatMap_append, List.flatMap_append, ← flat_map_rows, ← flat_map_rows, ← List.append_assoc]
  simp only [List.flatMap_cons, List.flatMap_nil, List.append_nil]
  rfl
theorem step_bat {s : NS} {g : Int} (he : s.en = false) (hm : s.ms = []) (h : Small7 [g]) : stepN s (rBat g) = some { s with bs := s.bs ++ [g] } := by
  unfold rBat
  rw [step_row he wBat (by decide) _ h]
  unfold stepNW
  rw [if_pos ⟨rfl, rfl, by rw [hm]; rfl⟩]
  rfl
theorem step_mov {s : NS} {m : Mv} (he : s.en = false) (h : Small7 (mvL m)) : stepN s (rMov m) = some { s with ms := s.ms ++ [m] } := by
  unfold rMov
  rw [step_row he wMov (by decide) _ h]
  unfold stepNW
  rw [if_neg (fun h => absurd h.1 (by decide)), if_pos ⟨rfl, rfl⟩]
  rfl
theorem step_fin {s : NS} (he : s.en = false) (h : Small7 [(s.ms.length : Int)]) : stepN s (rFin (s.ms.length : Int)) = some { s with en := true } := by
  unfold rFin
  rw [step_row he wFin (by decide) _ h]
  unfold stepNW
  rw [if_neg (fun h => absurd h.1 (by decide)), if_neg (fun h => absurd h.1 (by decide)), if_pos ⟨rfl, rfl, rfl⟩]
theorem run_bats : ∀ (l : List Int) (i : Nat) (s : NS) (R : List (List UInt8)), s.en = false → s.ms = [] → Small7 l → runN i s (l.map rBat ++ R) = runN (i + l.length) { s with bs := s.bs ++ l } R
  | [], i, s, R, _, _, _ => by simp
  | g :: r, i, s, R, he, hm, h => by
    rw [List.map_cons, List.cons_append, runN, step_bat he hm (fun x hx => h x (by rw [List.mem_singleton.1 hx]; exact List.mem_cons_self))]
    have ih := run_bats r (i + 1) { s with bs := s.bs ++ [g] } R he hm (fun y hy => h y (List.mem_cons_of_mem _ hy))
    simp only [List.append_assoc, List.singleton_append] at ih
    rw [List.length_cons, show i + (r.length + 1) = i + 1 + r.length by omega]
    exact ih
theorem run_movs : ∀ (l : List Mv) (i : Nat) (s : NS) (R : List (List UInt8)), s.en = false → (∀ m ∈ l, Small7 (mvL m)) → runN i s (l.map rMov ++ R) = runN (i + l.length) { s with ms := s.ms ++ l } R
  | [], i, s, R, _, _ => by simp
  | g :: r, i, s, R, he, h => by
    rw [List.map_cons, List.cons_append, runN, step_mov he (h g List.mem_cons_self)]
    have ih := run_movs r (i + 1) { s with ms := s.ms ++ [g] } R he (fun y hy => h y (List.mem_cons_of_mem _ hy))
    simp only [List.append_assoc, List.singleton_append] at ih
    rw [List.length_cons, show i + (r.length + 1) = i + 1 + r.length by omega]
    exact ih
theorem run_rows {bs : List Int} {ms : List Mv} (h0 : Small7 bs) (h1 : ∀ m ∈ ms, Small7 (mvL m)) (h2 : Small7 [(ms.length : Int)]) : runN 0 .init (rowsOf bs ms) = .inl ⟨bs, ms, true⟩ := by
  unfold rowsOf
  rw [run_bats bs 0 .init _ rfl rfl h0, run_movs ms _ _ _ rfl h1, runN]
  have e := step_fin (s := ⟨bs, ms, false⟩) rfl h2
  rw [show ({ bs := ({ NS.init with bs := NS.init.bs ++ bs } : NS).bs, ms := ({ NS.init with bs := NS.init.bs ++ bs } : NS).ms ++ ms, en := ({ NS.init with bs := NS.init.bs ++ bs } : NS).en } : NS) = ⟨bs, ms, false⟩ from rfl, e]
  rfl
theorem small_of {bs : List Int} {ms : List Mv} (h : NetIn bs ms) : Small7 bs ∧ (∀ m ∈ ms, Small7 (mvL m)) ∧ Small7 [(ms.length : Int)] := by
  refine ⟨fun x hx => ?_, fun m hm x hx => ?_, fun x hx => ?_⟩
  · have := h.gr x hx
    omega
  · obtain ⟨k, hk, rfl⟩ := List.getElem_of_mem hm
    have h1 := h.at_ hk
    have h2 := (h.has_bd k ms[k].fr).2
    have h3 := h1.f0
    have h4 := h1.f1
    have h5 := h1.t0
    have h6 := h1.t1
    have h7 := h1.g0
    have h8 := h1.g1
    have h9 := h.n1
    simp only [mvL, List.mem_cons, List.not_mem_nil, or_false] at hx
    omega
  · have := h.m1
    simp at hx
    omega
theorem numsT_sev : ∀ (l : List Int), Small7 l → (numsT l).length ≤ 8 * l.length
  | [], _ => by simp [numsT]
  | x :: r, h => by
    have h1 := numsT_sev r (fun y hy => h y (List.mem_cons_of_mem _ hy))
    have h2 := (numT_iff.1 (num_itoa (h x List.mem_cons_self).1 (h x List.mem_cons_self).2)).2
    have h4 : numsT (x :: r) = (32 :: Lib.itoa x) ++ numsT r := by simp [numsT]
    rw [h4, List.length_append, List.length_cons, List.length_cons]
    omega
theorem flat_le7 {α : Type} (f : α → List UInt8) (k : Nat) : ∀ (l : List α), (∀ x ∈ l, (f x).length ≤ k) → (l.flatMap f).length ≤ k * l.length
  | [], _ => by simp
  | x :: r, h => by
    have h1 := flat_le7 f k r (fun y hy => h y (List.mem_cons_of_mem _ hy))
    have h2 := h x List.mem_cons_self
    rw [List.flatMap_cons, List.length_append, List.length_cons, Nat.mul_succ]
    omega
theorem trail_len (bs : List Int) (ms : List Mv) : (trailT bs ms).length ≤ 1500 := by
  by_cases hc : chkNet bs ms = 0
  · have hn := netIn_of hc
    obtain ⟨h0, h1, h2⟩ := small_of hn
    have e1 := flat_le7 batR 14 bs (fun x hx => by
      have := numsT_sev [x] (fun y hy => h0 y (by rw [List.mem_singleton.1 hy]; exact hx))
      unfold batR
      rw [rowT_len]
      simp at this ⊢
      omega)
    have e2 := flat_le7 movR 29 ms (fun m hm => by
      have := numsT_sev (mvL m) (h1 m hm)
      unfold movR
      rw [rowT_len]
      simp [mvL] at this ⊢
      omega)
    have e3 := numsT_sev _ h2
    have n1 := hn.n1
    have m1 := hn.m1
    rw [show trailT bs ms = trailR bs ms from if_pos hc]
    unfold trailR batsR movsR endR
    rw [List.length_append, List.length_append, rowT_len]
    have e4 : ([101, 110, 100] : List UInt8).length = 3 := rfl
    have e5 : [(ms.length : Int)].length = 1 := rfl
    omega
  · rw [show trailT bs ms = [] from if_neg hc]
    simp
/-- what is written is read again -/
theorem read_trail {bs : List Int} {ms : List Mv} (hc : chkNet bs ms = 0) : readN (trailT bs ms) = ⟨bs, ms, 0, 0⟩ := by
  have hn := netIn_of hc
  obtain ⟨h0, h1, h2⟩ := small_of hn
  have ht : trailT bs ms = trailR bs ms := if_pos hc
  have hx := trail_len bs ms
  have hh : ∀ (wd : List UInt8) (n : List Int), (10 : UInt8) ∉ wd → Small7 n → (10 : UInt8) ∉ rowN wd n := fun wd n hw hn hc => by
    rcases List.mem_append.1 hc with h | h
    · exact hw h
    · exact numsT_no hn h
  have hno : ∀ r ∈ rowsOf bs ms, (10 : UInt8) ∉ r := by
    intro r hr
    unfold rowsOf at hr
    rcases List.mem_append.1 hr with hr | hr
    · obtain ⟨y, hy, rfl⟩ := List.mem_map.1 hr
      exact hh _ _ (by decide) (fun x hx => h0 x (by rw [List.mem_singleton.1 hx]; exact hy))
    rcases List.mem_append.1 hr with hr | hr
    · obtain ⟨y, hy, rfl⟩ := List.mem_map.1 hr
      exact hh _ _ (by decide) (h1 y hy)
    · rw [List.mem_singleton.1 hr]
      exact hh _ _ (by decide) h2
  have hsp : splitT 10 (trailT bs ms) = rowsOf bs ms ++ [[]] := by rw [ht, trail_rows, split_rows _ hno]
  refine (readN_ok (s := ⟨bs, ms, true⟩) hx ?_ ?_ hc).trans rfl
  · rw [hsp, List.length_append, List.length_singleton, Nat.add_sub_cancel, List.take_left', run_rows h0 h1 h2]
    rfl
  · rw [hsp]
    simp [List.getD]
theorem split_join (c : UInt8) : ∀ (s p : List UInt8) (ps : List (List UInt8)), splitT c s = p :: ps → s = p ++ ps.flatMap (c :: ·)
  | [], p, ps, h => by
    simp only [splitT, List.cons.injEq] at h
    obtain ⟨rfl, rfl⟩ := h
    rfl
  | x :: r, p, ps, h => by
    unfold splitT at h
    split at h
    · rename_i hx
      simp only [List.cons.injEq] at h
      obtain ⟨rfl, rfl⟩ := h
      cases hr : splitT c r with
      | nil => exact absurd hr (splitT_ne c r)
      | cons q qs =>
        have := split_join c r q qs hr
        subst hx
        rw [List.flatMap_cons, List.nil_append, this]
        simp
    · split at h
      · rename_i hr
        exact absurd hr (splitT_ne c r)
      · rename_i q qs hr
        simp only [List.cons.injEq] at h
        obtain ⟨rfl, rfl⟩ := h
        have := split_join c r q qs hr
        rw [List.cons_append, ← this]
theorem words_back : ∀ (ws : List (List UInt8)), ws.all okW7 = true → ws.flatMap ((32 : UInt8) :: ·) = numsT (ws.map valW7)
  | [], _ => rfl
  | w :: r, h => by
    rw [List.all_cons, Bool.and_eq_true] at h
    have h1 := words_back r h.2
    obtain ⟨n, hn⟩ : ∃ n, numT 7 w = some n := by have := h.1; unfold okW7 at this; exact Option.isSome_iff_exists.1 this
    have h2 : Lib.itoa (valW7 w) = w := by
      unfold valW7
      rw [hn]
      show Lib.itoa ((n : Nat) : Int) = w
      rw [Lib.itoa_nonneg]
      exact (numT_iff.1 hn).1.symm
    rw [List.flatMap_cons, h1, List.map_cons]
    simp [numsT, h2]
theorem step_inv {s s' : NS} {r : List UInt8} (h : stepN s r = some s') : s.en = false ∧ ∃ wd l, r = rowN wd l ∧ stepNW s wd l = some s' := by
  unfold stepN at h
  cases hs : splitT 32 r with
  | nil => exact absurd hs (splitT_ne 32 r)
  | cons w ws =>
    rw [hs] at h
    simp only at h
    cases he : s.en
    · rw [he] at h
      simp only [Bool.false_eq_true, if_false] at h
      by_cases ha : ws.all okW7 = true
      · rw [if_pos ha] at h
        exact ⟨rfl, w, _, by rw [split_join 32 r w ws hs, words_back ws ha]; rfl, h⟩
      · rw [if_neg ha] at h
        cases h
    · rw [he] at h
      simp at h
theorem rows_join : ∀ (R : List (List UInt8)) (p : List UInt8) (ps : List (List UInt8)), p :: ps = R ++ [[]] → p ++ ps.flatMap ((10 : UInt8) :: ·) = R.flatMap (· ++ [10])
  | [], p, ps, h => by
    simp only [List.nil_append, List.cons.injEq] at h
    obtain ⟨rfl, rfl⟩ := h
    rfl
  | r :: R, p, ps, h => by
    simp only [List.cons_append, List.cons.injEq] at h
    obtain ⟨rfl, h⟩ := h
    cases ps with
    | nil => simp at h
    | cons q qs =>
      have := rows_join R q qs h
      rw [List.flatMap_cons, List.flatMap_cons, ← this]
      simp
theorem run_en {i : Nat} {s s' : NS} {rows : List (List UInt8)} (he : s.en = true) (h : runN i s rows = .inl s') : rows = [] ∧ s' = s := by
  cases rows with
  | nil => simp only [runN, Sum.inl.injEq] at h; exact ⟨rfl, h.symm⟩
  | cons r rs =>
    rw [runN] at h
    cases hst : stepN s r with
    | none => rw [hst] at h; cases h
    | some s1 => rw [(step_inv hst).1] at he; cases he
theorem inv_run : ∀ (rows : List (List UInt8)) (i : Nat) (s s' : NS), s.en = false → runN i s rows = .inl s' → s'.en = true →
    ∃ nb nm, s'.bs = s.bs ++ nb ∧ s'.ms = s.ms ++ nm ∧ (s.ms.length ≠ 0 → nb = []) ∧ rows = nb.map rBat ++ (nm.map rMov ++ [rFin (s'.ms.length : Int)])
  | [], i, s, s', he, h, he' => by
    simp only [runN, Sum.inl.injEq] at h
    subst h
    rw [he] at he'
    cases he'
  | r :: rs, i, s, s', he, h, he' => by
    rw [runN] at h
    cases hst : stepN s r with
    | none => rw [hst] at h; cases h
    | some s1 =>
      rw [hst] at h
      simp only at h
      obtain ⟨_, wd, l, hr, hw⟩ := step_inv hst
      unfold stepNW at hw
      split at hw
      · rename_i hc
        obtain ⟨rfl, hl, hm⟩ := hc
        simp only [Option.some.injEq] at hw
        subst hw
        obtain ⟨nb, nm, h1, h2, h3, h4⟩ := inv_run rs (i + 1) { s with bs := s.bs ++ [atN l 0] } s' he h he'
        match l, hl with
        | [a], _ =>
          refine ⟨a :: nb, nm, by rw [h1]; simp [atN], h2, fun h => absurd hm h, ?_⟩
          rw [List.map_cons, List.cons_append, ← h4, hr]
          rfl
      · split at hw
        · rename_i hc
          obtain ⟨rfl, hl⟩ := hc
          simp only [Option.some.injEq] at hw
          subst hw
          obtain ⟨nb, nm, h1, h2, h3, h4⟩ := inv_run rs (i + 1) { s with ms := s.ms ++ [⟨atN l 0, atN l 1, atN l 2⟩] } s' he h he'
          have hnb := h3 (by simp)
          subst hnb
          match l, hl with
          | [a, b, c], _ =>
            refine ⟨[], ⟨a, b, c⟩ :: nm, h1, by rw [h2]; simp [atN], fun _ => rfl, ?_⟩
            rw [List.map_nil, List.nil_append, List.map_cons, List.cons_append, hr, h4]
            rfl
        · split at hw
          · rename_i hc
            obtain ⟨rfl, hl, h0⟩ := hc
            simp only [Option.some.injEq] at hw
            subst hw
            obtain ⟨rfl, rfl⟩ := run_en rfl h
            refine ⟨[], [], by simp, by simp, fun _ => rfl, ?_⟩
            match l, hl with
            | [a], _ =>
              simp only [atN, List.getD_cons_zero] at h0 ⊢
              rw [hr, h0]
              rfl
          · cases hw
theorem inv_rows {rows : List (List UInt8)} {s : NS} (h : runN 0 .init rows = .inl s) (he : s.en = true) : rows = rowsOf s.bs s.ms := by
  obtain ⟨nb, nm, h1, h2, _, h4⟩ := inv_run rows 0 .init s rfl h he
  simp only [NS.init, List.nil_append] at h1 h2
  unfold rowsOf
  rw [h4, h1, h2]
/-- what is read is written as it was -/
theorem trail_read {x : List UInt8} (h : (readN x).er = 0) : chkNet (readN x).bs (readN x).ms = 0 ∧ trailT (readN x).bs (readN x).ms = x := by
  by_cases hx : 1500 < x.length
  · unfold readN at h
    rw [if_pos hx] at h
    cases h
  have hx' : x.length ≤ 1500 := by omega
  cases hr : runN 0 .init ((splitT 10 x).take ((splitT 10 x).length - 1)) with
  | inr i =>
    rw [readN_err hx' hr] at h
    cases h
  | inl s =>
    by_cases he : s.en = false ∨ (splitT 10 x).getD ((splitT 10 x).length - 1) [] ≠ []
    · rw [readN_open hx' hr he] at h
      cases h
    · by_cases hc : chkNet s.bs s.ms = 0
      · rw [readN_ok hx' hr he hc]
        refine ⟨hc, ?_⟩
        show trailT s.bs s.ms = x
        unfold trailT
        rw [if_pos hc, trail_rows]
        simp only [not_or, Bool.not_eq_false, ne_eq, Decidable.not_not] at he
        have hrows := inv_rows hr he.1
        rw [← hrows]
        cases hsp : splitT 10 x with
        | nil => exact absurd hsp (splitT_ne 10 x)
        | cons p ps =>
          rw [hsp] at he
          have hL : p :: ps = (p :: ps).take ((p :: ps).length - 1) ++ [[]] := by
            have h1 : (p :: ps).length - 1 < (p :: ps).length := by simp
            have h2 : (p :: ps)[(p :: ps).length - 1] = [] := by
              have := he.2
              rw [List.getD_eq_getElem?_getD, List.getElem?_eq_getElem h1] at this
              exact this
            have h3 := List.take_succ_eq_append_getElem h1
            rw [h2, show (p :: ps).length - 1 + 1 = (p :: ps).length by simp, List.take_length] at h3
            exact h3
          rw [← rows_join _ p ps hL]
          exact (split_join 10 x p ps hsp).symm
      · rw [readN_bad hx' hr he hc] at h
        exact absurd h hc
/-- a text that is refused has no net -/
theorem trail_none {x : List UInt8} (h : (readN x).er ≠ 0) : (readN x).bs = [] ∧ (readN x).ms = [] := by
  unfold readN at h ⊢
  split
  · exact ⟨rfl, rfl⟩
  · rename_i hx
    rw [if_neg hx] at h
    split
    · exact ⟨rfl, rfl⟩
    · rename_i s hs
      rw [hs] at h
      simp only at h ⊢
      split
      · exact ⟨rfl, rfl⟩
      · rename_i h1
        rw [if_neg h1] at h
        split
        · exact ⟨rfl, rfl⟩
        · rename_i h2
          rw [if_neg h2] at h
          exact absurd rfl h
theorem readN_len (x : List UInt8) : (readN x).bs.length ≤ 8 ∧ (readN x).ms.length ≤ 12 := by
  by_cases h : (readN x).er = 0
  · have h1 := netIn_of (trail_read h).1
    exact ⟨h1.n1, h1.m1⟩
  · rw [(trail_none h).1, (trail_none h).2]
    simp
end Go.Proofs.YtkphgdkjjklajaaGreatDoor

namespace Go.Proofs.YtkphgdkjjklajaaGreatDoor
open Go.RowKit Go.Shelf Go.Sort

theorem ok_if3 {p q r : Prop} {_ : Decidable p} {_ : Decidable q} {_ : Decidable r} {w : World} :
    (if p then if q then if r then Result.ok (Next.value (.bool true)) w else Result.ok (Next.value (.bool false)) w else Result.ok (Next.value (.bool false)) w else Result.ok (Next.value (.bool false)) w) =
      Result.ok (Next.value (.bool (decide p && (decide q && decide r)))) w := by
  by_cases hp : p <;> by_cases hq : q <;> by_cases hr : r <;> simp [hp, hq, hr]
set_option maxHeartbeats 1000000 in
theorem sameNets_any (b1 b2 b3 b4 : Nat) (Ab Am Ac An : Option Addr) (nb cb nm cm nc cc nn cn : Nat) (bs cs : List Int) (ms ns : List Mv) (w : World) (hM : NetM w b1 b2 Ab Am nb cb nm cm bs ms) (hN : NetM w b3 b4 Ac An nc cc nn cn cs ns) (hnb : nb ≤ 1000000) (hnm : nm ≤ 1000000) :
    Calls Tryz.prog 14 #[netV Ab Am nb cb nm cm, netV Ac An nc cc nn cn] w fun e w' => e = .returned (.bool (decide (bs = cs) && decide (ms = ns))) ∧ Below w.heap.size w w' := by
  have HA := Lib.hid hM.m.len
  have HB := Lib.hid hN.m.len
  have HM := Lib.hid hM
  have HN := Lib.hid hN
  clear hM hN
  have hB1 := (Blk.new w 25 #[.slice Ab nb cb, .slice Am nm cm]).alloc (.cells #[.slice Ac nc cc, .slice An nn cn] 25)
  have hB2 := Blk.new (w.alloc (.cells #[.slice Ab nb cb, .slice Am nm cm] 25)) 25 #[.slice Ac nc cc, .slice An nn cn]
  rw [World.size_alloc] at hB2
  have HB0 := Lib.hid (show Below w.heap.size w ((w.alloc (.cells #[.slice Ab nb cb, .slice Am nm cm] 25)).alloc (.cells #[.slice Ac nc cc, .slice An nn cn] 25)) from by go_grown)
  have HM0 := Lib.hid (HM.out.old HB0.out)
  have HN0 := Lib.hid (HN.out.old HB0.out)
  have c0 := hB1.cell 0
  have c1 := hB2.cell 0
  have HB1 := Lib.hid hB1
  have HB2 := Lib.hid hB2
  clear hB1 hB2
  go_enter Tryz.func14, Tryz.ntmps14
  go_upto_region 1 with fail
  obtain ⟨V, hV⟩ : ∃ V, (w.alloc (.cells #[.slice Ab nb cb, .slice Am nm cm] 25)).alloc (.cells #[.slice Ac nc cc, .slice An nn cn] 25) = V := ⟨_, rfl⟩
  have hz : w.heap.size + 2 = V.heap.size := by rw [← hV]; simp
  rw [hV] at HB0 HM0 HN0 HB1 HB2 c0 c1 ⊢
  clear hV
  have hsame := sameInts_any b1 b3 nb nc cb cc Ab Ac bs cs V HM0.out.b HN0.out.b (by omega)
  have HS := Lib.hid hsame
  clear hsame
  have hkeep : ∀ W, Below V.heap.size V W → (W.cell? ⟨w.heap.size, 1, none⟩ = some (.slice Am nm cm) ∧ W.cell? ⟨w.heap.size + 1, 1, none⟩ = some (.slice An nn cn)) := fun W h => ⟨(HB1.out.below h HB1.out.lt).cell 1, (HB2.out.below h HB2.out.lt).cell 1⟩
  have HK := Lib.hid hkeep
  clear hkeep
  by_cases hbs : bs = cs
  · have e0 : decide (bs = cs) = true := decide_eq_true hbs
    have HE0 := Lib.hid e0
    go_wp2_with (go_at_call 21; refine HS.out.mono ?_; rintro e w1 ⟨rfl, hB3⟩; obtain ⟨q0, q1⟩ := HK.out w1 hB3; have HV1 := Lib.hid hB3; clear hB3)
    obtain ⟨wo, rfl⟩ : ∃ wo : World, wo = w1 := ⟨_, rfl⟩
    go_loopw [5, 6] (fun v i wr => ∃ (k : Nat) (s : Bool), i = .int .i64 k ∧ v = .bool s ∧ k ≤ nm ∧ (s = true → nm = nn) ∧ (s && decide (ms.drop k = ns.drop k)) = decide (ms = ns) ∧ Below V.heap.size V wr) (fun _ i _ => nm - (intOf i).toNat)
    case atStart =>
      refine ⟨0, decide (nm = nn), rfl, ?_, Nat.zero_le _, by simp, ?_, HV1.out⟩
      · congr 1
        by_cases h : nm = nn
        · simp [h]
        · simp only [h, decide_false, beq_eq_false_iff_ne]
          omega
      · by_cases h : nm = nn
        · simp [h]
        · have : ¬ ms = ns := fun e => h (by rw [HA.out, HB.out, e])
          simp [h, this]
    case round =>
      obtain ⟨k, s, rfl, rfl, hk, hs, hd, hB⟩ := hrel
      have HD := Lib.hid hd
      have HBW := Lib.hid (HB0.out.trans (hB.mono (by omega : w.heap.size ≤ V.heap.size)))
      have HBB := Lib.hid hB
      obtain ⟨r0, r1⟩ := HK.out wr hB
      clear hd
      cases s with
      | false =>
        clear hB
        go_wp2_with fail
        go_ret
        exact ⟨ret_bool (by rw [← HD.out, HE0.out]; rfl), HBW.out⟩
      | true =>
        have hnn := hs rfl
        have HNN := Lib.hid hnn
        clear hnn hs
        by_cases hlt : k < nm
        · have HLT := Lib.hid hlt
          obtain ⟨o1, rfl, hb1, p0, p1, p2⟩ := (HM0.out.m.old hB).atM (k := k) (by have := HA.out; omega)
          obtain ⟨o2, rfl, hb2, t0, t1, t2⟩ := (HN0.out.m.old hB).atM (k := k) (by have := HB.out; have := HNN.out; omega)
          have hlt2 : (k : Int) < (nn : Int) := by have := HNN.out; omega
          have hlt1 : (k : Int) < (nm : Int) := by omega
          have hk0 : (0 : Int) ≤ (k : Int) := by omega
          have hd1 : decide ((k : Int) < (nm : Int)) = true := by simpa using hlt1
          generalize hx : ms[k]'(by have := HA.out; omega) = x at p0 p1 p2
          generalize hy : ns[k]'(by have := HB.out; have := HNN.out; omega) = y at t0 t1 t2
          have HX := Lib.hid hx
          have HY := Lib.hid hy
          clear hx hy hB
          go_wp2_with fail
          refine wp_region_PL [1, 4, 6, 9] (fun W => W.cell? ⟨w.heap.size, 1, none⟩ = some (.slice (some ⟨b2, o1, none⟩) nm cm) ∧ W.cell? ⟨w.heap.size + 1, 1, none⟩ = some (.slice (some ⟨b4, o2, none⟩) nn cn) ∧ (W.cell? ⟨b2, o1 + k * 3, none⟩ = some (.int .i64 x.fr) ∧ W.cell? ⟨b2, o1 + k * 3 + 1, none⟩ = some (.int .i64 x.to) ∧ W.cell? ⟨b2, o1 + k * 3 + 2, none⟩ = some (.int .i64 x.g)) ∧ (W.cell? ⟨b4, o2 + k * 3, none⟩ = some (.int .i64 y.fr) ∧ W.cell? ⟨b4, o2 + k * 3 + 1, none⟩ = some (.int .i64 y.to) ∧ W.cell? ⟨b4, o2 + k * 3 + 2, none⟩ = some (.int .i64 y.g))) rfl (by kernel_rfl) (⟨r0, r1, ⟨p0, p1, p2⟩, ⟨t0, t1, t2⟩⟩) (fun hF0 => ?_)
          (refine wpAnyP_takeL (i := 0) (v := ?_) rfl (by kernel_rfl) (by kernel_rfl) (by kernel_rfl) (fun _ _ _ h => h) (by rfl) ?_ ?_; rotate_left 1; focus (intro w; go_simp; try with_reducible rfl))
          try simp only [Act.put, List.setIfInBounds_toArray, List.set_cons_zero, List.set_cons_succ]
          (refine wpAnyP_loadL (i := 1) (v := ?_) rfl (by kernel_rfl) (by kernel_rfl) (by kernel_rfl) (by rfl) (fun _ _ _ h => h) hF0 (by rfl) ?_ ?_; rotate_left 1; focus (intro w hFw; (try dsimp only at hFw); go_split_ands; go_simp; try with_reducible rfl))
          try simp only [Act.put, List.setIfInBounds_toArray, List.set_cons_zero, List.set_cons_succ]
          (refine wpAnyP_takeL (i := 2) (v := ?_) rfl (by kernel_rfl) (by kernel_rfl) (by kernel_rfl) (fun _ _ _ h => h) (by rfl) ?_ ?_; rotate_left 1; focus (intro w; go_simp; try with_reducible rfl))
          try simp only [Act.put, List.setIfInBounds_toArray, List.set_cons_zero, List.set_cons_succ]
          (refine wpAnyP_takeL (i := 3) (v := ?_) rfl (by kernel_rfl) (by kernel_rfl) (by kernel_rfl) (fun _ _ _ h => h) (by rfl) ?_ ?_; rotate_left 1; focus (intro w; go_simp; try with_reducible rfl))
          try simp only [Act.put, List.setIfInBounds_toArray, List.set_cons_zero, List.set_cons_succ]
          (refine wpAnyP_loadL (i := 4) (v := ?_) rfl (by kernel_rfl) (by kernel_rfl) (by kernel_rfl) (by rfl) (fun _ _ _ h => h) hF0 (by rfl) ?_ ?_; rotate_left 1; focus (intro w hFw; (try dsimp only at hFw); go_split_ands; go_simp; try with_reducible rfl))
          try simp only [Act.put, List.setIfInBounds_toArray, List.set_cons_zero, List.set_cons_succ]
          (refine wpAnyP_takeL (i := 5) (v := ?_) rfl (by kernel_rfl) (by kernel_rfl) (by kernel_rfl) (fun _ _ _ h => h) (by rfl) ?_ ?_; rotate_left 1; focus (intro w; go_simp; try with_reducible rfl))
          try simp only [Act.put, List.setIfInBounds_toArray, List.set_cons_zero, List.set_cons_succ]
          (refine wpAnyP_loadL (i := 6) (v := ?_) rfl (by kernel_rfl) (by kernel_rfl) (by kernel_rfl) (by rfl) (fun _ _ _ h => h) hF0 (by rfl) ?_ ?_; rotate_left 1; focus (intro w hFw; (try dsimp only at hFw); go_split_ands; go_simp; try with_reducible rfl))
          try simp only [Act.put, List.setIfInBounds_toArray, List.set_cons_zero, List.set_cons_succ]
          (refine wpAnyP_takeL (i := 7) (v := ?_) rfl (by kernel_rfl) (by kernel_rfl) (by kernel_rfl) (fun _ _ _ h => h) (by rfl) ?_ ?_; rotate_left 1; focus (intro w; go_simp; try with_reducible rfl))
          try simp only [Act.put, List.setIfInBounds_toArray, List.set_cons_zero, List.set_cons_succ]
          (refine wpAnyP_takeL (i := 8) (v := ?_) rfl (by kernel_rfl) (by kernel_rfl) (by kernel_rfl) (fun _ _ _ h => h) (by rfl) ?_ ?_; rotate_left 1; focus (intro w; go_simp; try with_reducible rfl))
          try simp only [Act.put, List.setIfInBounds_toArray, List.set_cons_zero, List.set_cons_succ]
          (refine wpAnyP_loadL (i := 9) (v := ?_) rfl (by kernel_rfl) (by kernel_rfl) (by kernel_rfl) (by rfl) (fun _ _ _ h => h) hF0 (by rfl) ?_ ?_; rotate_left 1; focus (intro w hFw; (try dsimp only at hFw); go_split_ands; go_simp; try with_reducible rfl))
          try simp only [Act.put, List.setIfInBounds_toArray, List.set_cons_zero, List.set_cons_succ]
          (refine wpAnyP_takeL (i := 10) (v := ?_) rfl (by kernel_rfl) (by kernel_rfl) (by kernel_rfl) (fun _ _ _ h => h) (by rfl) ?_ ?_; rotate_left 1; focus (intro w; go_simp; exact ok_if3))
          try simp only [Act.put, List.setIfInBounds_toArray, List.set_cons_zero, List.set_cons_succ]
          (refine wpAnyP_takeL (i := 11) (v := ?_) rfl (by kernel_rfl) (by kernel_rfl) (by kernel_rfl) (fun _ _ _ h => h) (by rfl) ?_ ?_; rotate_left 1; focus (intro w; go_simp; try with_reducible rfl))
          try simp only [Act.put, List.setIfInBounds_toArray, List.set_cons_zero, List.set_cons_succ]
          refine wpAnyP_done (by kernel_rfl) ?_ _
          go_wp2_with fail
          go_roundw
          case rel =>
            refine ⟨k + 1, _, by go_num, rfl, by omega, fun _ => HNN.out, ?_, HBB.out.drew⟩
            rw [← HD.out, drop_eq (a := ms) (b := ns) (k := k) (by have := HA.out; have := HLT.out; omega) (by have := HB.out; have := HNN.out; have := HLT.out; omega), HX.out, HY.out]
            rw [show decide (x = y) = (decide (x.fr = y.fr) && (decide (x.to = y.to) && decide (x.g = y.g))) from by cases x; cases y; simp [Bool.eq_iff_iff]]
            simp
          case measure => simp [intOf]; omega
        · have HG := Lib.hid (show nm ≤ k by omega)
          have hd1 : decide ((k : Int) < (nm : Int)) = false := by simp; omega
          clear hB
          go_wp2_with fail
          go_ret
          refine ⟨ret_bool ?_, HBW.out⟩
          rw [HE0.out, ← HD.out, drop_all (a := ms) (b := ns) (k := k) (by have := HA.out; have := HG.out; omega) (by have := HB.out; have := HNN.out; have := HG.out; omega)]
          rfl
  · have e0 : decide (bs = cs) = false := decide_eq_false hbs
    go_wp2_with (go_at_call 21; refine HS.out.mono ?_; rintro e w1 ⟨rfl, hB3⟩; obtain ⟨q0, q1⟩ := HK.out w1 hB3; have HV1 := Lib.hid hB3; clear hB3)
    go_rounds 1
    go_ret
    exact ⟨ret_bool (by rw [e0]; rfl), HB0.out.trans (HV1.out.mono (by omega : w.heap.size ≤ V.heap.size))⟩
end Go.Proofs.YtkphgdkjjklajaaGreatDoor

namespace Go.Proofs.YtkphgdkjjklajaaGreatDoor
open Go.RowKit Go.Shelf Go.Sort

set_option maxRecDepth 100000 in
set_option maxHeartbeats 4000000 in
theorem traceTape_any (A : Option Addr) (n c : Nat) (s : ByteArray) (w : World) (hN : Nums w A n) (hT : TEnv w) :
    Calls Tryz.prog 4 #[.slice A n c, .string s] w fun e w' => e = .returned (.bool true) ∧ Below w.heap.size w w' := by
  have HT := Lib.hid hT
  clear hT
  by_cases h7 : 700 < s.size
  · have hb7 : decide ((700 : Int) < (s.size : Int)) = true := by simp; omega
    go_enter Tryz.func4, Tryz.ntmps4
    go_wp2_with fail
    refine (kawake_any _).mono ?_
    rintro e w1 ⟨rfl, hB1⟩
    have L1 := Lib.hid hB1
    clear hB1
    go_wp2_with fail
    go_ret
    exact ⟨rfl, L1.out⟩
  · have hb7 : decide ((700 : Int) < (s.size : Int)) = false := by simp; omega
    clear h7
    go_enter Tryz.func4, Tryz.ntmps4
    obtain ⟨b, l0, hl0, hw0, hn0⟩ := hN
    go_wp2_with fail
    refine (dieOf_any b n c A l0 _ hl0 hn0 hw0).mono ?_
    rintro e w1 ⟨d, hd, rfl, hdie, hB1⟩
    have HB1 := Lib.hid hB1
    have hz1 := hB1.size
    clear hl0 hw0 hB1
    go_wp2_with fail
    have hd2 := hdie
    have HG2 := Lib.hid (only_refl w1 d)
    clear hdie
    refine (netOf_any d 8 12 1000000 _ hd2 (by omega) (by omega) (by omega) (by omega) (by omega)).mono ?_
    rintro e w3 ⟨bs, ms, b1, b2, Ab, Am, nb, cb, nm, cm, hNI, hnb, hnm, rfl, hNM, hb1, hb2, hd3, hg3⟩
    have hz2 := HG2.out.size
    have hg13 := only_trans HG2.out hg3
    have hz3 := hg3.size
    have hdz2 := hd2.lt
    have HB3 := Lib.hid (Below.stepG hg13 HB1.out (Nat.le_refl _) hd)
    have HS3 := Lib.hid (show LawSt w (w3.alloc (.cells #[.slice Ab nb cb, .slice Am nm cm] 25)) d w3.heap.size b1 b2 Ab Am nb cb nm cm bs ms from ⟨HB3.out.alloc HB3.out.size _, Blk.new w3 _ _, hNM.old ((Below.refl _ w3).alloc (Nat.le_refl _) _), hNI, hd3.alloc _, by omega, by omega, by omega, hd⟩)
    have hnb8 : nb ≤ 8 := by omega
    have hnm12 : nm ≤ 12 := by omega
    have HNB := Lib.hid HS3.out.nb_eq
    have HNMq := Lib.hid HS3.out.nm_eq
    clear hd2 hNM hNI hd3 hg3 hg13 hb1 hb2
    have HC := Lib.hid (chkNet_zero HS3.out.ni)
    have c0 := HS3.out.blk.cell 0
    have c1 := HS3.out.blk.cell 1
    go_wp2_with fail
    refine (twrite_any b1 b2 Ab Am nb cb nm cm bs ms _ HS3.out.net (by omega) (by omega) (HT.out.old HS3.out.low).pow).mono ?_
    rintro e w4 ⟨rfl, hB4⟩
    rw [HC.out]
    have HS4 := Lib.hid (HS3.out.below hB4)
    obtain ⟨y, hy⟩ : ∃ y, y = trailT bs ms := ⟨_, rfl⟩
    have HY := Lib.hid (show readN y = ⟨bs, ms, 0, 0⟩ by rw [hy]; exact read_trail HC.out)
    rw [← hy]
    clear hB4 c0 c1 hy
    go_wp2_with fail
    refine (tread_any ⟨y.toArray⟩ _ (HT.out.old HS4.out.low)).mono ?_
    rintro e w5 ⟨A5, A6, c5, c6, b5, b6, rfl, hN5, hB5⟩
    simp only [List.toList_toArray] at hN5 ⊢
    rw [HY.out] at hN5 ⊢
    simp only at hN5 ⊢
    rw [← HNB.out, ← HNMq.out] at hN5 ⊢
    have HS5 := Lib.hid ((HS4.out.below hB5).alloc (.cells #[.slice A5 nb c5, .slice A6 nm c6] 25))
    have HN5 := Lib.hid (hN5.old ((Below.refl _ w5).alloc (Nat.le_refl _) (.cells #[.slice A5 nb c5, .slice A6 nm c6] 25)))
    have K5 := Lib.hid (Blk.new w5 25 #[.slice A5 nb c5, .slice A6 nm c6])
    have f0 := HS5.out.blk.cell 0
    have f1 := HS5.out.blk.cell 1
    have f2 := K5.out.cell 0
    have f3 := K5.out.cell 1
    clear hN5 hB5
    go_wp2_with fail
    refine (sameNets_any b1 b2 b5 b6 Ab Am A5 A6 nb cb nm cm nb c5 nm c6 bs bs ms ms _ HS5.out.net HN5.out (by omega) (by omega)).mono ?_
    rw [show (decide (bs = bs) && decide (ms = ms)) = true by simp]
    rintro e w6 ⟨rfl, hB6⟩
    have HS6 := Lib.hid (HS5.out.below hB6)
    clear hB6 f0 f1 f2 f3
    go_wp2_with fail
    refine (tread_any s _ (HT.out.old HS6.out.low)).mono ?_
    rintro e w7 ⟨A7, A8, c7, c8, b7, b8, rfl, hN7, hB7⟩
    have HWR := Lib.hid (fun h => @trail_read s.data.toList h)
    have HNO := Lib.hid (fun h => @trail_none s.data.toList h)
    have hrl := readN_len s.data.toList
    generalize readN s.data.toList = r at hN7 hrl HWR HNO ⊢
    have HL7 := Lib.hid ((HS6.out.low.trans (hB7.mono HS6.out.low.size)).alloc (by have := HS6.out.low.size; have := hB7.size; omega) (.cells #[.slice A7 r.bs.length c7, .slice A8 r.ms.length c8] 25))
    have HN7 := Lib.hid (hN7.old ((Below.refl _ w7).alloc (Nat.le_refl _) (.cells #[.slice A7 r.bs.length c7, .slice A8 r.ms.length c8] 25)))
    have K7 := Lib.hid (Blk.new w7 25 #[.slice A7 r.bs.length c7, .slice A8 r.ms.length c8])
    have f0 := K7.out.cell 0
    have f1 := K7.out.cell 1
    clear hN7 hB7
    by_cases hr : r.er = 0
    · have HER := Lib.hid hr
      obtain ⟨hc, ht⟩ := HWR.out hr
      have HC2 := Lib.hid hc
      have HT2 := Lib.hid ht
      have hg : (r.er == 0) = true := by rw [hr]; rfl
      clear hr hc ht
      go_wp2_with fail
      refine (twrite_any b7 b8 A7 A8 r.bs.length c7 r.ms.length c8 r.bs r.ms _ HN7.out (by omega) (by omega) (HT.out.old HL7.out).pow).mono ?_
      rintro e w8 ⟨rfl, hB8⟩
      rw [HC2.out, HT2.out, bytes_back]
      have HB8 := Lib.hid (HL7.out.trans (hB8.mono HL7.out.size))
      clear hB8 f0 f1
      go_wp2_with fail
      refine (kawake_any _).mono ?_
      rintro e w9 ⟨rfl, hB9⟩
      have L9 := Lib.hid (HB8.out.trans (hB9.mono HB8.out.size))
      clear hB9
      go_wp2_with fail
      go_ret
      exact ⟨rfl, L9.out⟩
    · have hg : (r.er == 0) = false := by rw [beq_eq_false_iff_ne]; exact hr
      clear hr
      go_wp2_with fail
      refine (kawake_any _).mono ?_
      rintro e w9 ⟨rfl, hB9⟩
      have L9 := Lib.hid (HL7.out.trans (hB9.mono HL7.out.size))
      clear hB9
      go_wp2_with fail
      go_ret
      exact ⟨rfl, L9.out⟩
end Go.Proofs.YtkphgdkjjklajaaGreatDoor
