/-
  Words that are numbers, and the parts of a text: plain laws.
-/
import Derived.Test.YtkphgdkjjklajaaGreatDoorBase
import Derived.Lib.Split
import Derived.Lib.ItoaNum
import Derived.Lib.ItoaMem
import Derived.Lib.AtoiAllCases
set_option linter.unusedVariables false
set_option linter.unusedSimpArgs false
namespace Go.Proofs.YtkphgdkjjklajaaGreatDoor

/-! the parts of a text between separators -/
def splitT (c : UInt8) : List UInt8 → List (List UInt8)
  | [] => [[]]
  | x :: r => if x = c then [] :: splitT c r else match splitT c r with
    | [] => [[x]]
    | h :: t => (x :: h) :: t
theorem splitT_none {c : UInt8} : ∀ {p : List UInt8}, c ∉ p → splitT c p = [p]
  | [], _ => rfl
  | x :: r, h => by
    simp only [List.mem_cons, not_or] at h
    rw [splitT, if_neg (Ne.symm h.1), splitT_none h.2]
theorem splitT_hit {c : UInt8} : ∀ {p : List UInt8}, c ∉ p → ∀ r, splitT c (p ++ c :: r) = p :: splitT c r
  | [], _, r => by rw [List.nil_append, splitT, if_pos rfl]
  | x :: p, h, r => by
    simp only [List.mem_cons, not_or] at h
    rw [List.cons_append, splitT, if_neg (Ne.symm h.1), splitT_hit h.2 r]
theorem splitT_ne (c : UInt8) : ∀ s : List UInt8, splitT c s ≠ []
  | [] => by simp [splitT]
  | x :: r => by
    unfold splitT
    split
    · simp
    · split <;> simp
theorem split_first (c : UInt8) : ∀ s : List UInt8, c ∉ s ∨ ∃ p r, c ∉ p ∧ s = p ++ c :: r
  | [] => .inl (by simp)
  | x :: s => by
    by_cases hx : x = c
    · exact .inr ⟨[], s, by simp, by rw [hx]; rfl⟩
    · rcases split_first c s with h | ⟨p, r, h, rfl⟩
      · exact .inl (by simp [Ne.symm hx, h])
      · exact .inr ⟨x :: p, r, by simp [Ne.symm hx, h], rfl⟩
theorem index_none {c : UInt8} : ∀ {p : List UInt8}, c ∉ p → Lib.index p [c] = -1
  | [], _ => rfl
  | x :: r, h => by
    simp only [List.mem_cons, not_or] at h
    have h1 : ([c].isPrefixOf (x :: r)) = false := by simp [List.isPrefixOf, h.1]
    rw [Lib.index, h1, index_none h.2]
    rfl
theorem index_hit {c : UInt8} : ∀ {p : List UInt8}, c ∉ p → ∀ r, Lib.index (p ++ c :: r) [c] = p.length
  | [], _, r => by simp [Lib.index, List.isPrefixOf]
  | x :: p, h, r => by
    simp only [List.mem_cons, not_or] at h
    have h1 : ([c].isPrefixOf (x :: (p ++ c :: r))) = false := by simp [List.isPrefixOf, h.1]
    rw [List.cons_append, Lib.index, h1, index_hit h.2 r]
    have h2 : (((p.length : Int)) == -1) = false := by rw [beq_eq_false_iff_ne]; omega
    rw [h2]
    simp
theorem splitK_eq (c : UInt8) (s : List UInt8) : Lib.splitK [c] 0 (Lib.count s [c]) s = splitT c s := by
  generalize hn : s.length = n
  induction n using Nat.strongRecOn generalizing s with
  | ind n ih =>
    rcases split_first c s with h | ⟨p, r, h, rfl⟩
    · rw [Lib.count_miss (index_none h), splitT_none h]
      rfl
    · have hi := index_hit h r
      rw [Lib.count_hit (by simp) hi, Nat.add_comm, Lib.splitK, hi, splitT_hit h]
      have h2 : (((p.length : Int)) == -1) = false := by rw [beq_eq_false_iff_ne]; omega
      rw [h2]
      simp only [Bool.false_eq_true, if_false, Int.toNat_natCast, Nat.add_zero, List.length_singleton]
      have hd : (p ++ c :: r).drop (p.length + 1) = r := by simp [List.drop_append]
      rw [hd, ih r.length (by rw [← hn]; simp; omega) r rfl]
      simp

/-! words that are numbers -/
def isDig (b : UInt8) : Bool := 48 ≤ b.toNat && b.toNat ≤ 57
def digs (acc : Nat) (l : List UInt8) : Nat := l.foldl (fun n b => 10 * n + (b.toNat - 48)) acc
def valT (l : List UInt8) : Nat := digs 0 l
def numT (mx : Nat) (x : List UInt8) : Option Nat := if x.length < 1 ∨ mx < x.length ∨ (x.head? = some 48 ∧ 1 < x.length) then none else if x.all isDig then some (valT x) else none
theorem digs_snoc (acc : Nat) (l : List UInt8) (b : UInt8) : digs acc (l ++ [b]) = 10 * digs acc l + (b.toNat - 48) := by simp [digs]
theorem dig_back {b : UInt8} (h : isDig b = true) : UInt8.ofNat (48 + (b.toNat - 48)) = b := by
  simp only [isDig, Bool.and_eq_true, decide_eq_true_eq] at h
  rw [show 48 + (b.toNat - 48) = b.toNat by omega]
  exact UInt8.ofNat_toNat
theorem dig_lt {b : UInt8} (h : isDig b = true) : b.toNat - 48 < 10 := by
  simp only [isDig, Bool.and_eq_true, decide_eq_true_eq] at h
  omega
theorem ofNat_dig {d : Nat} (h : d < 10) : isDig (UInt8.ofNat (48 + d)) = true ∧ (UInt8.ofNat (48 + d)).toNat - 48 = d := by
  have : (UInt8.ofNat (48 + d)).toNat = 48 + d := by
    rw [UInt8.toNat_ofNat']
    omega
  simp only [isDig, this, Bool.and_eq_true, decide_eq_true_eq]
  omega
/-- digits without a zero ahead are the numeral of their value -/
theorem dec_val : ∀ (n : Nat) (x : List UInt8), x.length = n → 1 ≤ x.length → ¬ (x.head? = some 48 ∧ 1 < x.length) → x.all isDig = true → Lib.decDigits (valT x) = x ∧ (1 < x.length → 1 ≤ valT x)
  | 0, x, h, h1, _, _ => by omega
  | n + 1, x, hn, h1, hz, hd => by
    obtain ⟨y, b, rfl⟩ : ∃ y b, x = y ++ [b] := ⟨x.dropLast, x.getLast (by intro h; simp [h] at h1), (List.dropLast_concat_getLast _).symm⟩
    rw [List.all_append, Bool.and_eq_true] at hd
    have hb : isDig b = true := by simpa using hd.2
    have hbl := dig_lt hb
    unfold valT
    rw [digs_snoc]
    cases y with
    | nil =>
      refine ⟨?_, fun h => by simp at h⟩
      have h0 : digs 0 ([] : List UInt8) = 0 := rfl
      rw [h0, Lib.decDigits, dif_pos (by omega)]
      simp only [Nat.mul_zero, Nat.zero_add, dig_back hb, List.nil_append]
    | cons a r =>
      have hlen : (a :: r).length = n := by simp at hn ⊢; omega
      have ha : a ≠ 48 := fun e => hz ⟨by simp [e], by simp⟩
      obtain ⟨h2, h3⟩ := dec_val n (a :: r) hlen (by simp) (fun h => ha (by simpa using h.1)) hd.1
      have hpos : 1 ≤ digs 0 (a :: r) := by
        cases r with
        | nil =>
          have hda : isDig a = true := by have := hd.1; simpa using this
          have h5 : digs 0 [a] = a.toNat - 48 := by simp [digs]
          rw [h5]
          simp only [isDig, Bool.and_eq_true, decide_eq_true_eq] at hda
          have : a.toNat ≠ 48 := fun e => ha (by rw [← UInt8.ofNat_toNat (x := a), e]; rfl)
          omega
        | cons c r' => exact h3 (by simp)
      refine ⟨?_, fun _ => by omega⟩
      rw [Lib.decDigits, dif_neg (by omega)]
      rw [show (10 * digs 0 (a :: r) + (b.toNat - 48)) / 10 = digs 0 (a :: r) by omega, show (10 * digs 0 (a :: r) + (b.toNat - 48)) % 10 = b.toNat - 48 by omega, dig_back hb]
      rw [show Lib.decDigits (digs 0 (a :: r)) = a :: r from h2]
theorem dec_dig : ∀ (n : Nat), (Lib.decDigits n).all isDig = true ∧ valT (Lib.decDigits n) = n ∧ 1 ≤ (Lib.decDigits n).length ∧ ((Lib.decDigits n).head? = some 48 → n = 0) := by
  intro n
  induction n using Nat.strongRecOn with
  | ind n ih =>
    by_cases h : n < 10
    · rw [Lib.decDigits, dif_pos h]
      obtain ⟨h1, h2⟩ := ofNat_dig h
      generalize UInt8.ofNat (48 + n) = b at h1 h2
      refine ⟨by simp [h1], by simp [valT, digs, h2], by simp, fun e => ?_⟩
      simp only [List.head?_cons, Option.some.injEq] at e
      rw [e] at h2
      have : (48 : UInt8).toNat = 48 := rfl
      omega
    · obtain ⟨h1, h2, h3, h4⟩ := ih (n / 10) (by omega)
      have hm : n % 10 < 10 := by omega
      obtain ⟨g1, g2⟩ := ofNat_dig hm
      rw [Lib.decDigits, dif_neg h]
      generalize UInt8.ofNat (48 + n % 10) = b at g1 g2
      refine ⟨by rw [List.all_append, h1]; simp [g1], ?_, by simp, fun e => ?_⟩
      · unfold valT at h2 ⊢
        rw [digs_snoc, h2, g2]
        omega
      · cases hh : Lib.decDigits (n / 10) with
        | nil => rw [hh] at h3; simp at h3
        | cons a r =>
          rw [hh] at e h4
          simp at e h4
          have := h4 e
          omega
theorem dec_zero_len {n : Nat} (h : (Lib.decDigits n).head? = some 48) : (Lib.decDigits n).length = 1 := by
  have := (dec_dig n).2.2.2 h
  subst this
  rw [Lib.decDigits, dif_pos (by omega)]
  rfl
theorem numT_iff {mx : Nat} {x : List UInt8} {n : Nat} : numT mx x = some n ↔ x = Lib.decDigits n ∧ x.length ≤ mx := by
  unfold numT
  constructor
  · intro h
    split at h
    · cases h
    · rename_i hc
      split at h
      · rename_i hd
        simp only [not_or] at hc
        injection h with h
        subst h
        exact ⟨(dec_val _ x rfl (by omega) hc.2.2 hd).1.symm, by omega⟩
      · cases h
  · rintro ⟨rfl, hm⟩
    obtain ⟨h1, h2, h3, h4⟩ := dec_dig n
    rw [if_neg (by rintro (h | h | ⟨h, h'⟩) <;> first | omega | (have := dec_zero_len h; omega)), if_pos h1, h2]
theorem digs_lt : ∀ (l : List UInt8) (acc : Nat), l.all isDig = true → digs acc l < (acc + 1) * 10 ^ l.length
  | [], acc, _ => by simp [digs]
  | c :: r, acc, hd => by
    rw [List.all_cons, Bool.and_eq_true] at hd
    have hc := dig_lt hd.1
    have h1 := digs_lt r (10 * acc + (c.toNat - 48)) hd.2
    have h2 : 10 * acc + (c.toNat - 48) + 1 ≤ (acc + 1) * 10 := by omega
    have h3 := Nat.mul_le_mul_right (10 ^ r.length) h2
    rw [List.length_cons, Nat.pow_succ]
    have e : (acc + 1) * 10 * 10 ^ r.length = (acc + 1) * (10 ^ r.length * 10) := by rw [Nat.mul_assoc, Nat.mul_comm 10]
    show digs (10 * acc + (c.toNat - 48)) r < _
    omega
theorem pu_ok : ∀ (l : List UInt8) (acc : Nat), l.all isDig = true → (acc + 1) * 10 ^ l.length ≤ 1000000000000000000 → Lib.parseUint10 acc l = .ok (digs acc l)
  | [], acc, _, _ => rfl
  | c :: r, acc, hd, hb => by
    rw [List.all_cons, Bool.and_eq_true] at hd
    have hc := hd.1
    simp only [isDig, Bool.and_eq_true, decide_eq_true_eq] at hc
    rw [List.length_cons, Nat.pow_succ] at hb
    have hp : 1 ≤ 10 ^ r.length := Nat.one_le_pow _ _ (by omega)
    have h1 : (acc + 1) * 10 ≤ 1000000000000000000 := by
      have : (acc + 1) * 10 * 1 ≤ (acc + 1) * 10 * 10 ^ r.length := Nat.mul_le_mul_left _ hp
      have e : (acc + 1) * 10 * 10 ^ r.length = (acc + 1) * (10 ^ r.length * 10) := by rw [Nat.mul_assoc, Nat.mul_comm 10]
      omega
    rw [Lib.parseUint10, if_pos hc, if_neg (by omega), if_neg (by omega), pu_ok r _ hd.2 ?_]
    · show _ = Lib.NumEnd.ok (digs (10 * acc + (c.toNat - 48)) r)
      rw [Nat.mul_comm]
    · have h2 : acc * 10 + (c.toNat - 48) + 1 ≤ (acc + 1) * 10 := by omega
      have h3 := Nat.mul_le_mul_right (10 ^ r.length) h2
      have e : (acc + 1) * 10 * 10 ^ r.length = (acc + 1) * (10 ^ r.length * 10) := by rw [Nat.mul_assoc, Nat.mul_comm 10]
      omega
/-- what a word that is a number is for the library -/
theorem atoi_of_num {x : List UInt8} {n : Nat} (h : numT 7 x = some n) : Lib.atoiAll x = .ok (n : Int) ∧ Lib.itoa (n : Int) = x := by
  obtain ⟨rfl, hl⟩ := numT_iff.1 h
  obtain ⟨h1, h2, h3, h4⟩ := dec_dig n
  refine ⟨?_, Lib.itoa_nonneg n⟩
  generalize hx : Lib.decDigits n = x at h1 h2 h3 hl
  cases x with
  | nil => simp at h3
  | cons c r =>
    rw [List.all_cons, Bool.and_eq_true] at h1
    have hc := h1.1
    simp only [isDig, Bool.and_eq_true, decide_eq_true_eq] at hc
    have hb : (0 + 1) * 10 ^ (c :: r).length ≤ 1000000000000000000 := by
      have : 10 ^ (c :: r).length ≤ 10 ^ 7 := Nat.pow_le_pow_right (by omega) hl
      omega
    have hp : Lib.parseMag (c :: r) = .ok n := by
      rw [Lib.parseMag, if_neg (by simp), pu_ok _ 0 (by rw [List.all_cons, h1.1, h1.2]; rfl) hb]
      exact congrArg _ h2
    rw [Lib.atoiAll_plain c r (by omega) (by omega), hp]
    have hn : n < 9223372036854775808 := by
      have h5 := digs_lt (c :: r) 0 (by rw [List.all_cons, h1.1, h1.2]; rfl)
      have h6 : 10 ^ (c :: r).length ≤ 10 ^ 7 := Nat.pow_le_pow_right (by omega) hl
      have h7 : digs 0 (c :: r) = n := h2
      omega
    show Lib.signless (.ok n) = _
    rw [Lib.signless, if_neg (by omega)]
/-- a word that the library reads as a number, and writes as it stands, is one -/
theorem num_of_atoi {mx : Nat} {x : List UInt8} {v : Int} (h0 : 0 ≤ v) (hl : x.length ≤ mx) (h : Lib.itoa v = x) : numT mx x = some v.toNat := by
  obtain ⟨n, rfl⟩ := Int.eq_ofNat_of_zero_le h0
  rw [Lib.itoa_nonneg] at h
  exact numT_iff.2 ⟨h.symm, hl⟩
theorem numT_lt {x : List UInt8} {n : Nat} (h : numT 7 x = some n) : n < 10000000 := by
  obtain ⟨rfl, hl⟩ := numT_iff.1 h
  obtain ⟨h1, h2, h3, h4⟩ := dec_dig n
  have h5 := digs_lt (Lib.decDigits n) 0 h1
  have h6 : 10 ^ (Lib.decDigits n).length ≤ 10 ^ 7 := Nat.pow_le_pow_right (by omega) hl
  have h7 : digs 0 (Lib.decDigits n) = n := h2
  omega
theorem numT_mono {a b : Nat} {x : List UInt8} {n : Nat} (h : numT a x = some n) (hab : a ≤ b) : numT b x = some n := by
  obtain ⟨h1, h2⟩ := numT_iff.1 h
  exact numT_iff.2 ⟨h1, by omega⟩
end Go.Proofs.YtkphgdkjjklajaaGreatDoor
