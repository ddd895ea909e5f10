/-
  Nets, origins and samples, in plain words: what the functions of trails compute.
-/
import Derived.Test.YtmoolcpogilgkaaMost
import Derived.Test.YtmoolcpogilgkaaPure
set_option linter.unusedVariables false
set_option linter.unusedSimpArgs false
namespace Go.Proofs.Ytmoolcpogilgkaa

/-- How much each batch has at first. -/
def bsF (bs : List Int) : Int → Int := fun b => if 0 ≤ b then bs.getD b.toNat 0 else 0
def inR (n : Nat) (b : Int) : Bool := decide (0 ≤ b ∧ b < n)
def chkMs (n : Nat) (a : Int → Int) : List Mv → Int
  | [] => 0
  | m :: l =>
    if ¬ (inR n m.fr = true ∧ inR n m.to = true) then 3 else if m.fr = m.to then 2 else if ¬ (1 ≤ m.g ∧ m.g ≤ 8000000) then 1 else if a m.fr < m.g then 13
    else chkMs n (mvd a m) l
def chkNet (bs : List Int) (ms : List Mv) : Int :=
  if bs.length = 0 then 7 else if 8 < bs.length then 6 else if ¬ (∀ g ∈ bs, 0 ≤ g ∧ g ≤ 1000000) then 1 else if 12 < ms.length then 6
  else chkMs bs.length (bsF bs) ms
def chkOs (n : Nat) (p : Int) : List Int → Int
  | [] => 0
  | o :: l => if inR n o = false then 3 else if o ≤ p then 5 else chkOs n o l
def chkO (bs : List Int) (ms : List Mv) (l : List Int) : Int := if chkNet bs ms = 0 then chkOs bs.length (-1) l else chkNet bs ms

theorem inR_iff {n : Nat} {b : Int} : inR n b = true ↔ 0 ≤ b ∧ b < n := by simp [inR]

theorem okMs_of {n : Nat} {a : Int → Int} {l : List Mv} (h : chkMs n a l = 0) : OkMs n a l := by
  induction l generalizing a with
  | nil => trivial
  | cons m l ih =>
    simp only [chkMs] at h
    by_cases h1 : ¬ (inR n m.fr = true ∧ inR n m.to = true)
    · rw [if_pos h1] at h; cases h
    rw [if_neg h1] at h
    by_cases h2 : m.fr = m.to
    · rw [if_pos h2] at h; cases h
    rw [if_neg h2] at h
    by_cases h3 : ¬ (1 ≤ m.g ∧ m.g ≤ 8000000)
    · rw [if_pos h3] at h; cases h
    rw [if_neg h3] at h
    by_cases h4 : a m.fr < m.g
    · rw [if_pos h4] at h; cases h
    rw [if_neg h4] at h
    have h5 := Decidable.not_not.1 h1
    have h6 := Decidable.not_not.1 h3
    rw [inR_iff, inR_iff] at h5
    exact ⟨⟨h5.1.1, h5.1.2, h5.2.1, h5.2.2, h2, h6.1, by omega⟩, ih h⟩

/-- A net that may be. -/
structure NetIn (bs : List Int) (ms : List Mv) : Prop where
  n0 : 0 < bs.length
  n1 : bs.length ≤ 8
  gr : ∀ g ∈ bs, 0 ≤ g ∧ g ≤ 1000000
  m1 : ms.length ≤ 12
  ms : OkMs bs.length (bsF bs) ms
theorem netIn_of {bs : List Int} {ms : List Mv} (h : chkNet bs ms = 0) : NetIn bs ms := by
  unfold chkNet at h
  by_cases h1 : bs.length = 0
  · rw [if_pos h1] at h; cases h
  rw [if_neg h1] at h
  by_cases h2 : 8 < bs.length
  · rw [if_pos h2] at h; cases h
  rw [if_neg h2] at h
  by_cases h3 : ¬ (∀ g ∈ bs, 0 ≤ g ∧ g ≤ 1000000)
  · rw [if_pos h3] at h; cases h
  rw [if_neg h3] at h
  by_cases h4 : 12 < ms.length
  · rw [if_pos h4] at h; cases h
  rw [if_neg h4] at h
  exact ⟨by omega, by omega, Decidable.not_not.1 h3, by omega, okMs_of h⟩
theorem bsF_in {bs : List Int} (h : ∀ g ∈ bs, 0 ≤ g ∧ g ≤ 1000000) (b : Int) : 0 ≤ bsF bs b ∧ bsF bs b ≤ 1000000 := by
  unfold bsF
  split
  · rw [List.getD_eq_getElem?_getD]
    by_cases h1 : b.toNat < bs.length
    · rw [List.getElem?_eq_getElem h1]; exact h _ (List.getElem_mem h1)
    · rw [List.getElem?_eq_none (by omega)]; simp
  · omega
theorem bsF_get {bs : List Int} {i : Nat} (h : i < bs.length) : bsF bs i = bs[i] := by
  unfold bsF
  rw [if_pos (Int.natCast_nonneg _), Int.toNat_natCast, List.getD_eq_getElem?_getD, List.getElem?_eq_getElem h]; rfl
theorem sm_const_le {α : Type} {l : List α} {f : α → Int} {c : Int} (h : ∀ x ∈ l, f x ≤ c) : sm l f ≤ l.length * c := by
  induction l with
  | nil => simp [sm]
  | cons x l ih =>
    have h1 := h x (List.mem_cons_self ..)
    have h2 := ih fun y hy => h y (List.mem_cons_of_mem _ hy)
    simp only [sm, List.length_cons]
    rw [Int.natCast_succ, Int.add_mul]; omega
theorem rg_length (n : Nat) : (rg n).length = n := by simp [rg]
theorem NetIn.sum {bs : List Int} {ms : List Mv} (h : NetIn bs ms) : sm (rg bs.length) (bsF bs) ≤ 8000000 := by
  have h1 := sm_const_le (l := rg bs.length) (f := bsF bs) (c := 1000000) fun b _ => (bsF_in h.gr b).2
  rw [rg_length] at h1
  have := h.n1
  omega
theorem NetIn.pos {bs : List Int} {ms : List Mv} (h : NetIn bs ms) (b : Int) : 0 ≤ bsF bs b := (bsF_in h.gr b).1

/-- Origins that may be. -/
structure OrgIn (n : Nat) (l : List Int) : Prop where
  rg : ∀ o ∈ l, 0 ≤ o ∧ o < n
  up : l.Pairwise (· < ·)
theorem OrgIn.nodup {n : Nat} {l : List Int} (h : OrgIn n l) : l.Nodup := by
  rw [List.nodup_iff_pairwise_ne]; exact h.up.imp fun h => by omega
theorem orgIn_of {n : Nat} {p : Int} {l : List Int} (h : chkOs n p l = 0) : OrgIn n l ∧ ∀ o ∈ l, p < o := by
  induction l generalizing p with
  | nil => exact ⟨⟨fun o ho => absurd ho (by simp), List.Pairwise.nil⟩, fun o ho => absurd ho (by simp)⟩
  | cons x l ih =>
    simp only [chkOs] at h
    by_cases h1 : inR n x = false
    · rw [if_pos h1] at h; cases h
    rw [if_neg h1] at h
    by_cases h2 : x ≤ p
    · rw [if_pos h2] at h; cases h
    rw [if_neg h2] at h
    obtain ⟨h3, h4⟩ := ih h
    have h5 : inR n x = true := by cases h6 : inR n x; exact absurd h6 h1; rfl
    rw [inR_iff] at h5
    refine ⟨⟨fun o ho => ?_, List.Pairwise.cons h4 h3.up⟩, fun o ho => ?_⟩
    · rcases List.mem_cons.1 ho with rfl | h7
      · exact h5
      · exact h3.rg o h7
    · rcases List.mem_cons.1 ho with rfl | h7
      · omega
      · have := h4 o h7; omega
theorem chkOs_zero {n : Nat} {p : Int} {l : List Int} (h : OrgIn n l) (hp : ∀ o ∈ l, p < o) : chkOs n p l = 0 := by
  induction l generalizing p with
  | nil => rfl
  | cons x l ih =>
    simp only [chkOs]
    have h1 := h.rg x (List.mem_cons_self ..)
    have h2 := hp x (List.mem_cons_self ..)
    rw [if_neg (by rw [inR_iff.2 h1]; decide), if_neg (by omega)]
    have h3 := List.pairwise_cons.1 h.up
    exact ih ⟨fun o ho => h.rg o (List.mem_cons_of_mem _ ho), h3.2⟩ h3.1
theorem chkO_in {bs : List Int} {ms : List Mv} {l : List Int} (h : chkO bs ms l = 0) : NetIn bs ms ∧ OrgIn bs.length l := by
  unfold chkO at h
  by_cases h1 : chkNet bs ms = 0
  · rw [if_pos h1] at h; exact ⟨netIn_of h1, (orgIn_of h).1⟩
  · rw [if_neg h1] at h; exact absurd h h1
theorem chkO_zero {bs : List Int} {ms : List Mv} {l : List Int} (h1 : chkNet bs ms = 0) (h2 : OrgIn bs.length l) : chkO bs ms l = 0 := by
  unfold chkO
  rw [if_pos h1]; exact chkOs_zero h2 fun o ho => by have := (h2.rg o ho).1; omega

def othersT (n : Nat) (l : List Int) : List Int := (rg n).filter fun b => !decide (b ∈ l)
theorem rg_pairwise (n : Nat) : (rg n).Pairwise (· < ·) := by
  unfold rg
  rw [List.pairwise_map]
  exact List.pairwise_lt_range.imp fun h => by exact Int.ofNat_lt.2 h
theorem others_in (n : Nat) (l : List Int) : OrgIn n (othersT n l) :=
  ⟨fun _ ho => mem_rg.1 (List.mem_filter.1 ho).1, (rg_pairwise n).filter _⟩
theorem mem_others {n : Nat} {l : List Int} {b : Int} : b ∈ othersT n l ↔ (0 ≤ b ∧ b < n) ∧ b ∉ l := by
  simp [othersT, List.mem_filter, mem_rg]

/- What the functions answer. -/
def holdsT (bs : List Int) (ms : List Mv) : List Int := (rg bs.length).map (hasAt (bsF bs) ms)
def mayT (bs : List Int) (l : List Int) (ms : List Mv) (b : Int) : Span :=
  ⟨hasAt (bsF bs) ms b - mostF bs.length (bsF bs) (othersT bs.length l) ms b, mostF bs.length (bsF bs) l ms b⟩
def reachT (bs : List Int) (ms : List Mv) (l : List Int) : List Span := (rg bs.length).map (mayT bs l ms)
def takeT (bs : List Int) (l : List Int) (pre : List Mv) (m : Mv) : Span :=
  ⟨m.g - min m.g (mostF bs.length (bsF bs) (othersT bs.length l) pre m.fr), min m.g (mostF bs.length (bsF bs) l pre m.fr)⟩
def thrT (bs : List Int) (l : List Int) (pre : List Mv) : List Mv → List Span
  | [] => []
  | m :: k => takeT bs l pre m :: thrT bs l (pre ++ [m]) k
def throughT (bs : List Int) (ms : List Mv) (l : List Int) : List Span := thrT bs l [] ms
def hitT (b : Int) : List Mv → List Span → Bool
  | m :: k, x :: xs => (decide (m.to = b) && decide (0 < x.hi)) || hitT b k xs
  | _, _ => false
def recallT (bs : List Int) (ms : List Mv) (l : List Int) : List Int :=
  (rg bs.length).filter fun b => (decide (b ∈ l) && decide (0 < bsF bs b)) || hitT b ms (throughT bs ms l)
def originsT (bs : List Int) (ms : List Mv) (batch : Int) : List Int := (rg bs.length).filter fun o => decide (0 < mostF bs.length (bsF bs) [o] ms batch)

/- Samples -/
def choT (n : Nat) : Nat → Int → List (List Int)
  | 0, _ => [[]]
  | many + 1, first => ((rg n).filter fun i => decide (first ≤ i)).flatMap fun i => (choT n many (i + 1)).map (i :: ·)
def tellsT (a b : Span) : Bool := (decide (0 < a.lo) && decide (b.hi = 0)) || (decide (0 < b.lo) && decide (a.hi = 0))
def spanAt (l : List Span) (b : Int) : Span := l.getD b.toNat ⟨0, 0⟩
def apartT (known : List (List Span)) (l : List Int) : Bool :=
  (List.range known.length).all fun i => (List.range i).all fun k => l.any fun b => tellsT (spanAt (known.getD i []) b) (spanAt (known.getD k []) b)
def sampT (n : Nat) (known : List (List Span)) : Option (List Int) := ((List.range (n + 1)).flatMap fun many => choT n many 0).find? (apartT known)
def knownT (bs : List Int) (ms : List Mv) (l : List Int) : List (List Span) := l.map fun s => reachT bs ms [s]
def samplesT (bs : List Int) (ms : List Mv) (l : List Int) : Option (List Int) := sampT bs.length (knownT bs ms l)

end Go.Proofs.Ytmoolcpogilgkaa
