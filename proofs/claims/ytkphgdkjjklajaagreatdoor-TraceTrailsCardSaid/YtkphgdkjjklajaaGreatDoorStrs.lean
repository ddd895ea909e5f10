/-
  The reference: which words are numbers. The library's Split and Atoi; lists of strings.
-/
import Derived.Test.YtkphgdkjjklajaaGreatDoorNumLaw
import Derived.Test.YtkphgdkjjklajaaGreatDoorText
import Derived.Test.YtkphgdkjjklajaaGreatDoorBooks
import Derived.Lib.AtoiErrMem
set_option linter.unusedVariables false
set_option linter.unusedSimpArgs false
namespace Go.Proofs.YtkphgdkjjklajaaGreatDoor
open Go.RowKit

def numE (x : List UInt8) : Value := match numT 6 x with
  | some n => .tuple #[.int .i64 n, .bool true]
  | none => .tuple #[.int .i64 0, .bool false]
theorem numE_none {x : List UInt8} (h : numT 6 x = none) : numE x = .tuple #[.int .i64 0, .bool false] := by unfold numE; rw [h]
theorem numE_some {x : List UInt8} {n : Nat} (h : numT 6 x = some n) : numE x = .tuple #[.int .i64 n, .bool true] := by unfold numE; rw [h]
theorem bytes_len (s : ByteArray) : s.data.toList.length = s.size := by rw [Array.length_toList]; rfl
theorem bytes_at (s : ByteArray) (k : Nat) (h : k < s.size) (h' : k < s.data.toList.length) : s.data.toList[k]'h' = s[k]'h := rfl

theorem digs_take (x : List UInt8) (k : Nat) (hk : k < x.length) : digs 0 (x.take (k + 1)) = 10 * digs 0 (x.take k) + (x[k].toNat - 48) := by
  rw [List.take_succ_eq_append_getElem hk, digs_snoc]
theorem all_take (x : List UInt8) (k : Nat) (hk : k < x.length) : (x.take (k + 1)).all isDig = ((x.take k).all isDig && isDig x[k]) := by
  rw [List.take_succ_eq_append_getElem hk, List.all_append]
  simp
theorem not_all {x : List UInt8} {k : Nat} (hk : k < x.length) (h : isDig x[k] = false) : ¬ x.all isDig = true := fun e => by
  rw [List.all_eq_true] at e
  rw [e _ (List.getElem_mem hk)] at h
  cases h

end Go.Proofs.YtkphgdkjjklajaaGreatDoor

namespace Go.Proofs.YtkphgdkjjklajaaGreatDoor
open Go.RowKit

def encT (x : List UInt8) : List Value := [.string ⟨x.toArray⟩]
theorem encT_len (x : List UInt8) : (encT x).length = 1 := rfl
theorem oneT (x : List UInt8) : ∀ u ∈ encT x, u.oneCell' = true := by simp [encT, Value.oneCell']
theorem Sl.atT {w : World} {b n : Nat} {A : Option Addr} {l : List (List UInt8)} (h : Sl encT 1 w b A n l) {k : Nat} (hk : k < l.length) :
    ∃ o, A = some ⟨b, o, none⟩ ∧ b < w.heap.size ∧ w.cell? ⟨b, o + k, none⟩ = some (.string ⟨l[k].toArray⟩) := by
  obtain ⟨o, h1, h2, h3⟩ := h.at_ hk
  exact ⟨o, h1, h2, by have := h3 0 _ rfl; simpa using this⟩
theorem info_string : (Tryz.prog.info? 9).map (fun i => (i.zero, i.size, i.bytes)) = some (some (.string ByteArray.empty), 1, 16) := by kernel_rfl

/-- what the library's variables hold -/
structure TEnv (W : World) : Prop where
  pow : Pow W
  len : ∃ m, W.cell? ⟨2, 0, none⟩ = some (.int .i64 m)
  syn : ∃ tp p, W.cell? ⟨0, 0, none⟩ = some (.iface tp p)
  rng : ∃ tp p, W.cell? ⟨1, 0, none⟩ = some (.iface tp p)
theorem cell_old {W W' : World} {a : Addr} {v : Value} (h : W.cell? a = some v) (hb : Below W.heap.size W W') : W'.cell? a = some v := by
  rw [← h]
  unfold World.cell?
  rw [hb.block a.block (Lib.lt_of_cell h)]
theorem TEnv.old {W W' : World} (h : TEnv W) (hb : Below W.heap.size W W') : TEnv W' := by
  obtain ⟨m, h2⟩ := h.len
  obtain ⟨t3, p3, h3⟩ := h.syn
  obtain ⟨t4, p4, h4⟩ := h.rng
  exact ⟨h.pow.old hb, ⟨m, cell_old h2 hb⟩, ⟨t3, p3, cell_old h3 hb⟩, ⟨t4, p4, cell_old h4 hb⟩⟩

theorem bytes_back (s : ByteArray) : (⟨s.data.toList.toArray⟩ : ByteArray) = s := by
  cases s with
  | mk d => simp
theorem split_cells (c : UInt8) (s : ByteArray) : (Lib.splitB ⟨#[c]⟩ 0 (Lib.countB s ⟨#[c]⟩) s).map Value.string = (splitT c s.data.toList).flatMap encT := by
  have h := Lib.splitB_data ⟨#[c]⟩ 0 (Lib.countB s ⟨#[c]⟩) s
  have h2 : Lib.splitK (ByteArray.mk #[c]).data.toList 0 (Lib.countB s ⟨#[c]⟩) s.data.toList = splitT c s.data.toList := splitK_eq c s.data.toList
  rw [h2] at h
  rw [← h]
  clear h h2
  generalize Lib.splitB ⟨#[c]⟩ 0 (Lib.countB s ⟨#[c]⟩) s = l
  induction l with
  | nil => rfl
  | cons x r ih => simp only [List.map_cons, List.flatMap_cons, ih, encT, bytes_back, List.cons_append, List.nil_append]
theorem flat1 {α : Type} {enc : α → List Value} (hm : ∀ x, (enc x).length = 1) (l : List α) : (l.flatMap enc).length = l.length := by
  induction l with
  | nil => rfl
  | cons x r ih => rw [List.flatMap_cons, List.length_append, hm, ih, List.length_cons]; omega
theorem split_any (c : UInt8) (s : ByteArray) (W : World) (hT : TEnv W) (hs : s.size < 4294967281) :
    Calls Tryz.prog 34 #[.string s, .string ⟨#[c]⟩] W fun e W' => ∃ g, e = .returned (.slice (some ⟨g, 0, none⟩) (splitT c s.data.toList).length (splitT c s.data.toList).length) ∧ W.heap.size ≤ g ∧
      Sl encT 1 W' g (some ⟨g, 0, none⟩) (splitT c s.data.toList).length (splitT c s.data.toList) ∧ Below W.heap.size W W' := by
  obtain ⟨m, hm⟩ := hT.len
  refine (Tryz.strings_Split s ⟨#[c]⟩ m W hs hm (Nat.le_refl 1)).mono ?_
  rintro e W' ⟨rfl, rfl⟩
  have hc := split_cells c s
  have hl : Lib.countB s ⟨#[c]⟩ + 1 = (splitT c s.data.toList).length := by
    rw [← Lib.splitB_all ⟨#[c]⟩ (Nat.le_refl 1) 0 _ s rfl, ← flat1 encT_len (splitT c s.data.toList), ← hc, List.length_map]
  rw [hl]
  refine ⟨W.heap.size, rfl, Nat.le_refl _, ?_, (Below.refl _ W).alloc (Nat.le_refl _) _⟩
  exact Sl.new encT_len W _ _ _ (by rw [← hc])
def AtoiPost (x : List UInt8) (W : World) (e : Ending) (W' : World) : Prop :=
  ∃ (v : Int) (er : Value), e = .returned (.tuple #[.int .i64 v, er]) ∧ ((er = .nilIface ∧ Lib.atoiAll x = .ok v) ∨ ((∃ tp p, er = .iface tp p) ∧ ∀ u, Lib.atoiAll x ≠ .ok u)) ∧ Below W.heap.size W W'
theorem atoi_any (s : ByteArray) (W : World) (hT : TEnv W) (hs : s.size ≤ 281474976710656) : Calls Tryz.prog 35 #[.string s] W (AtoiPost s.data.toList W) := by
  cases h : Lib.atoiAll s.data.toList
  · rename_i v
    refine (Tryz.strconv_Atoi_ok s (by omega) v h W).mono ?_
    rintro e W' ⟨rfl, hw⟩
    refine ⟨v, _, rfl, .inl ⟨rfl, h⟩, ?_⟩
    rcases hw with rfl | ⟨t, rfl⟩
    · exact Below.refl _ _
    · exact Lib.bytesWorld_below _ _ _
  · obtain ⟨tp, p, hc⟩ := hT.syn
    refine (Tryz.strconv_Atoi_syntax s hs (h.trans (by rfl)) (.iface tp p) W hc (.inr ⟨tp, p, rfl⟩)).mono ?_
    rintro e W' ⟨N, rfl, _, _, hB⟩
    exact ⟨_, _, rfl, .inr ⟨⟨_, _, rfl⟩, fun u hu => by rw [h] at hu; cases hu⟩, hB⟩
  · obtain ⟨tp, p, hc⟩ := hT.rng
    refine (Tryz.strconv_Atoi_range s hs h (.iface tp p) W hc (.inr ⟨tp, p, rfl⟩)).mono ?_
    rintro e W' ⟨N, rfl, _, _, hB⟩
    exact ⟨_, _, rfl, .inr ⟨⟨_, _, rfl⟩, fun u hu => by rw [h] at hu; cases hu⟩, hB⟩
end Go.Proofs.YtkphgdkjjklajaaGreatDoor
