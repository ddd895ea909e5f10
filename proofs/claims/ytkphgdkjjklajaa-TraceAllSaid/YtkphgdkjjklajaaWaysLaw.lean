/-
  All ways, one after the other, and what is gathered over them; in plain words.
-/
import Derived.Test.YtkphgdkjjklajaaTraceAll
set_option linter.unusedVariables false
set_option linter.unusedSimpArgs false
namespace Go.Proofs.Ytkphgdkjjklajaa

/-- the numbers from lo to hi -/
def opts (lo hi : Int) : List Int := (List.range (hi - lo + 1).toNat).map fun k : Nat => lo + (k : Int)
theorem mem_opts {lo hi x : Int} : x ∈ opts lo hi ↔ lo ≤ x ∧ x ≤ hi := by
  unfold opts
  rw [List.mem_map]
  constructor
  · rintro ⟨k, hk, rfl⟩
    have := List.mem_range.1 hk
    omega
  · rintro ⟨h1, h2⟩
    exact ⟨(x - lo).toNat, List.mem_range.2 (by omega), by omega⟩
theorem opts_none {lo hi : Int} (h : hi < lo) : opts lo hi = [] := by
  unfold opts
  rw [show (hi - lo + 1).toNat = 0 by omega]
  rfl
theorem opts_snoc {lo x : Int} (h : lo ≤ x) : opts lo x = opts lo (x - 1) ++ [x] := by
  unfold opts
  rw [show (x - lo + 1).toNat = (x - 1 - lo + 1).toNat + 1 by omega, List.range_succ, List.map_append]
  congr 1
  simp
  omega
theorem opts_len (lo hi : Int) : (opts lo hi).length = (hi - lo + 1).toNat := by unfold opts; rw [List.length_map, List.length_range]
/-- the least and the greatest that a move may take -/
def loM (a own : Int → Int) (m : Mv) : Int := max 0 (m.g - (a m.fr - own m.fr))
def hiM (own : Int → Int) (m : Mv) : Int := min m.g (own m.fr)
/-- all ways, in order -/
def waysT (a own : Int → Int) : List Mv → List (List Int)
  | [] => [[]]
  | m :: l => (opts (loM a own m) (hiM own m)).flatMap fun x => (waysT (mvd a m) (mvx own m x) l).map (x :: ·)
theorem mem_waysT {a own : Int → Int} {l : List Mv} {xs : List Int} : xs ∈ waysT a own l ↔ isWay a own l xs := by
  induction l generalizing a own xs with
  | nil =>
    cases xs with
    | nil => simp [waysT, isWay]
    | cons x xs => simp [waysT, isWay]
  | cons m l ih =>
    simp only [waysT, List.mem_flatMap, List.mem_map]
    constructor
    · rintro ⟨x, hx, ys, hy, rfl⟩
      have := mem_opts.1 hx
      unfold loM hiM at this
      exact ⟨⟨by omega, by omega, by omega, by omega⟩, ih.1 hy⟩
    · intro h
      cases xs with
      | nil => exact h.elim
      | cons x xs => exact ⟨x, mem_opts.2 (by unfold loM hiM; have := h.1; omega), xs, ih.2 h.2, rfl⟩
theorem waysT_len {a own : Int → Int} {l : List Mv} (h : ∀ m ∈ l, 0 ≤ m.g ∧ m.g ≤ 12) : (waysT a own l).length ≤ 13 ^ l.length := by
  induction l generalizing a own with
  | nil => simp [waysT]
  | cons m l ih =>
    have hm := h m (List.mem_cons_self ..)
    have key : ∀ L : List Int, (L.flatMap fun x => (waysT (mvd a m) (mvx own m x) l).map (x :: ·)).length ≤ L.length * 13 ^ l.length := by
      intro L
      induction L with
      | nil => simp
      | cons x L ihL =>
        have h1 := ih (a := mvd a m) (own := mvx own m x) fun y hy => h y (List.mem_cons_of_mem _ hy)
        rw [List.flatMap_cons, List.length_append, List.length_map, List.length_cons, Nat.succ_mul]
        omega
    have h2 := key (opts (loM a own m) (hiM own m))
    have h3 : (opts (loM a own m) (hiM own m)).length ≤ 13 := by
      rw [opts_len]
      unfold loM hiM
      omega
    show ((opts (loM a own m) (hiM own m)).flatMap fun x => (waysT (mvd a m) (mvx own m x) l).map (x :: ·)).length ≤ _
    rw [List.length_cons, Nat.pow_succ, Nat.mul_comm]
    exact Nat.le_trans h2 (Nat.mul_le_mul_right _ h3)

/-- the least and the greatest, as they are gathered -/
def seenT (s : Span) (k : Nat) (n : Int) : Span := if k = 0 then ⟨n, n⟩ else ⟨min s.lo n, max s.hi n⟩
def gathT (s : Span) (k : Nat) : List Int → Span
  | [] => s
  | n :: ns => gathT (seenT s k n) (k + 1) ns
theorem gathT_append (s : Span) (k : Nat) (l l' : List Int) : gathT s k (l ++ l') = gathT (gathT s k l) (k + l.length) l' := by
  induction l generalizing s k with
  | nil => simp [gathT]
  | cons n l ih =>
    simp only [List.cons_append, gathT, List.length_cons]
    rw [ih, Nat.add_assoc, Nat.add_comm 1 l.length]
theorem gathT_more (s : Span) (k : Nat) (hk : 0 < k) (l : List Int) : (gathT s k l).lo ≤ s.lo ∧ s.hi ≤ (gathT s k l).hi ∧ (∀ n ∈ l, (gathT s k l).lo ≤ n ∧ n ≤ (gathT s k l).hi) ∧
    ((gathT s k l).lo = s.lo ∨ (gathT s k l).lo ∈ l) ∧ ((gathT s k l).hi = s.hi ∨ (gathT s k l).hi ∈ l) := by
  induction l generalizing s k with
  | nil => simp [gathT]
  | cons n l ih =>
    obtain ⟨h1, h2, h3, h4, h5⟩ := ih (seenT s k n) (k + 1) (by omega)
    have e : seenT s k n = ⟨min s.lo n, max s.hi n⟩ := by unfold seenT; rw [if_neg (by omega)]
    simp only [gathT]
    rw [e] at h1 h2 h3 h4 h5 ⊢
    simp only at h1 h2 h4 h5
    refine ⟨by omega, by omega, fun x hx => ?_, ?_, ?_⟩
    · rcases List.mem_cons.1 hx with rfl | hx
      · omega
      · exact h3 x hx
    · rcases h4 with h4 | h4
      · by_cases h : s.lo ≤ n
        · exact .inl (by omega)
        · exact .inr (List.mem_cons.2 (.inl (by omega)))
      · exact .inr (List.mem_cons_of_mem _ h4)
    · rcases h5 with h5 | h5
      · by_cases h : n ≤ s.hi
        · exact .inl (by omega)
        · exact .inr (List.mem_cons.2 (.inl (by omega)))
      · exact .inr (List.mem_cons_of_mem _ h5)
theorem gathT_eq (s Y : Span) {l : List Int} (h1 : ∀ n ∈ l, Y.lo ≤ n ∧ n ≤ Y.hi) (h2 : Y.lo ∈ l) (h3 : Y.hi ∈ l) : gathT s 0 l = Y := by
  cases l with
  | nil => cases h2
  | cons n l =>
    obtain ⟨g1, g2, g3, g4, g5⟩ := gathT_more ⟨n, n⟩ 1 (by omega) l
    have e : gathT s 0 (n :: l) = gathT ⟨n, n⟩ 1 l := by simp [gathT, seenT]
    rw [e]
    generalize gathT ⟨n, n⟩ 1 l = X at *
    simp only at g1 g2 g4 g5
    have hn := h1 n (List.mem_cons_self ..)
    have a1 : Y.lo ≤ X.lo := by
      rcases g4 with g | g
      · omega
      · exact (h1 _ (List.mem_cons_of_mem _ g)).1
    have a2 : X.lo ≤ Y.lo := by
      rcases List.mem_cons.1 h2 with g | g
      · omega
      · exact (g3 _ g).1
    have a3 : X.hi ≤ Y.hi := by
      rcases g5 with g | g
      · omega
      · exact (h1 _ (List.mem_cons_of_mem _ g)).2
    have a4 : Y.hi ≤ X.hi := by
      rcases List.mem_cons.1 h3 with g | g
      · omega
      · exact (g3 _ g).2
    cases X
    cases Y
    simp only at *
    congr 1 <;> omega

/-- what is gathered is what is said -/
theorem ends_eq {bs : List Int} {ms : List Mv} (hN : NetIn bs ms) (l : List Int) (s : Span) {b : Int} (b0 : 0 ≤ b) (b1 : b < bs.length) :
    gathT s 0 ((waysT (bsF bs) (ownOf (bsF bs) l) ms).map fun xs => ownAt (ownOf (bsF bs) l) ms xs b) = mayT bs l ms b := by
  refine gathT_eq s _ (fun n hn => ?_) ?_ ?_
  · obtain ⟨xs, hx, rfl⟩ := List.mem_map.1 hn
    exact way_own (n := 0) hN l (mem_waysT.1 hx) b0 b1
  · obtain ⟨xs, h1, h2⟩ := way_least hN.pos hN.ms l b0 b1
    exact List.mem_map.2 ⟨xs, mem_waysT.2 h1, h2⟩
  · obtain ⟨xs, h1, h2⟩ := way_most hN.pos hN.ms l b0 b1
    exact List.mem_map.2 ⟨xs, mem_waysT.2 h1, h2⟩
theorem inAll_get? : ∀ {ss : List Span} {xs : List Int}, inAll ss xs → ∀ {k : Nat} {s : Span}, ss[k]? = some s → ∃ x, xs[k]? = some x ∧ Within s x
  | [], _, _, _, _, h1 => by simp at h1
  | _ :: _, [], h, _, _, _ => h.elim
  | s :: ss, x :: xs, h, 0, s', h1 => ⟨x, rfl, by simp at h1; rw [← h1]; exact h.1⟩
  | s :: ss, x :: xs, h, k + 1, s', h1 => by
    simp only [List.getElem?_cons_succ] at h1 ⊢
    exact inAll_get? h.2 h1
theorem thrT_get? (bs : List Int) (l : List Int) : ∀ (pre ms : List Mv) (k : Nat), (thrT bs l pre ms)[k]? = (ms[k]?).map fun m => takeT bs l (pre ++ ms.take k) m
  | pre, [], k => by simp [thrT]
  | pre, m :: ms, 0 => by simp [thrT]
  | pre, m :: ms, k + 1 => by
    have h := thrT_get? bs l (pre ++ [m]) ms k
    simp only [thrT, List.getElem?_cons_succ, List.take_succ_cons]
    rw [h, List.append_assoc]
    rfl
theorem takes_eq {bs : List Int} {ms : List Mv} (hN : NetIn bs ms) (l : List Int) (s : Span) {k : Nat} (hk : k < ms.length) :
    gathT s 0 ((waysT (bsF bs) (ownOf (bsF bs) l) ms).map fun xs => xs.getD k 0) = takeT bs l (ms.take k) ms[k] := by
  have hT : (throughT bs ms l)[k]? = some (takeT bs l (ms.take k) ms[k]) := by
    unfold throughT
    rw [thrT_get?, List.getElem?_eq_getElem hk]
    rfl
  have e : ms = ms.take k ++ ms[k] :: ms.drop (k + 1) := by rw [List.getElem_cons_drop, List.take_append_drop]
  have hl : (ms.take k).length = k := by rw [List.length_take]; omega
  obtain ⟨⟨xs, h1, h2⟩, ys, h3, h4⟩ := way_take (bs := bs) (pre := ms.take k) (m := ms[k]) (k := ms.drop (k + 1)) (by rw [← e]; exact hN) l
  rw [← e] at h1 h3
  rw [hl] at h2 h4
  refine gathT_eq s _ (fun n hn => ?_) ?_ ?_
  · obtain ⟨zs, hz, rfl⟩ := List.mem_map.1 hn
    obtain ⟨x, hx, hw⟩ := inAll_get? (way_through hN l (mem_waysT.1 hz)) hT
    rw [List.getD_eq_getElem?_getD, hx]
    exact hw
  · exact List.mem_map.2 ⟨ys, mem_waysT.2 h3, by rw [List.getD_eq_getElem?_getD, h4]; rfl⟩
  · exact List.mem_map.2 ⟨xs, mem_waysT.2 h1, by rw [List.getD_eq_getElem?_getD, h2]; rfl⟩
end Go.Proofs.Ytkphgdkjjklajaa
