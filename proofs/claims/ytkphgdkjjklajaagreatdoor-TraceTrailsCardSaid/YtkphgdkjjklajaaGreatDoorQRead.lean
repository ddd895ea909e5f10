/-
  The reference of trails: which words are numbers (at most seven digits). The reference: the parts of a string. The reference of trails: the numbers behind a word of a row. The reference of trails: what is read of a trail.
-/
import Derived.Test.YtkphgdkjjklajaaGreatDoorNumLaw
import Derived.Test.YtkphgdkjjklajaaGreatDoorStrs
import Derived.Test.YtkphgdkjjklajaaGreatDoorTrReadLaw
import Derived.Test.YtkphgdkjjklajaaGreatDoorApp
import Derived.Deep.CutRange
import Derived.Deep.QuietTactic
import Derived.Test.YtkphgdkjjklajaaGreatDoorTrReadKit
import Derived.Test.YtkphgdkjjklajaaGreatDoorQChkO
import Derived.BigQuiet
set_option linter.unusedVariables false
set_option linter.unusedSimpArgs false
namespace Go.Proofs.YtkphgdkjjklajaaGreatDoor
open Go.RowKit

def numE7 (x : List UInt8) : Value := match numT 7 x with
  | some n => .tuple #[.int .i64 n, .bool true]
  | none => .tuple #[.int .i64 0, .bool false]
theorem numE7_none {x : List UInt8} (h : numT 7 x = none) : numE7 x = .tuple #[.int .i64 0, .bool false] := by unfold numE7; rw [h]
theorem numE7_some {x : List UInt8} {n : Nat} (h : numT 7 x = some n) : numE7 x = .tuple #[.int .i64 n, .bool true] := by unfold numE7; rw [h]
set_option maxRecDepth 100000 in
set_option maxHeartbeats 1000000 in
theorem qnumber_any (s : ByteArray) (w : World) : Calls Tryz.prog 59 #[.string s] w fun e w' => e = .returned (numE7 s.data.toList) ∧ Below w.heap.size w w' := by
  have hlen := bytes_len s
  obtain ⟨x, hx⟩ : ∃ x, x = s.data.toList := ⟨_, rfl⟩
  rw [← hx] at hlen ⊢
  by_cases h1 : s.size < 1
  · have HN := Lib.hid (numE7_none (x := x) (by unfold numT; rw [if_pos (.inl (by omega))]))
    have hb : decide ((s.size : Int) < 1) = true := by simp; omega
    clear h1 hlen
    go_enter Tryz.func59, Tryz.ntmps59
    go_wp2_with fail
    go_ret2
    exact ⟨by rw [HN.out]; rfl, Below.refl _ _⟩
  have hb1 : decide ((s.size : Int) < 1) = false := by simp; omega
  by_cases h2 : 7 < s.size
  · have HN := Lib.hid (numE7_none (x := x) (by unfold numT; rw [if_pos (.inr (.inl (by omega)))]))
    have hb2 : decide ((7 : Int) < (s.size : Int)) = true := by simp; omega
    clear h1 h2 hlen
    go_enter Tryz.func59, Tryz.ntmps59
    go_wp2_with fail
    go_ret2
    exact ⟨by rw [HN.out]; rfl, Below.refl _ _⟩
  have hb2 : decide ((7 : Int) < (s.size : Int)) = false := by simp; omega
  have h0 : 0 < s.size := by omega
  have h0x : 0 < x.length := by omega
  have e0 : x.head? = some s[0] := by
    subst hx
    rw [List.head?_eq_getElem?, List.getElem?_eq_getElem h0x, bytes_at s 0 h0]
  have i0 : (0 : Int) < (s.size : Int) := by omega
  obtain ⟨a, ha⟩ : ∃ a : UInt8, a = s[0] := ⟨_, rfl⟩
  have q0 : s[0].toNat = a.toNat := by rw [ha]
  rw [← ha] at e0
  by_cases h3 : a.toNat = 48 ∧ 1 < s.size
  · have HN := Lib.hid (numE7_none (x := x) (by
      have e48 : a = 48 := by rw [← UInt8.ofNat_toNat (x := a), h3.1]; rfl
      unfold numT
      rw [if_pos (.inr (.inr ⟨by rw [e0, e48], by omega⟩))]))
    have hb3 : decide ((1 : Int) < (s.size : Int)) = true := by simp; omega
    have q1 : s[0].toNat = 48 := by rw [q0, h3.1]
    clear h1 h2 h3 hlen q0 ha e0
    go_enter Tryz.func59, Tryz.ntmps59
    go_wp2_with fail
    go_ret2
    exact ⟨by rw [HN.out]; rfl, Below.refl _ _⟩
  have h4 : ¬ (x.length < 1 ∨ 7 < x.length ∨ (x.head? = some 48 ∧ 1 < x.length)) := by
    rintro (h | h | ⟨h, h'⟩)
    · omega
    · omega
    · rw [e0] at h
      injection h with h
      exact h3 ⟨by rw [h]; rfl, by omega⟩
  have HX := Lib.hid h4
  have HXD := Lib.hid hx
  have HLN := Lib.hid hlen
  have hs7 : s.size ≤ 7 := by omega
  have loop : ∀ (K : Prop), K → K := fun _ h => h
  by_cases h5 : a.toNat = 48
  · have hb3 : decide ((1 : Int) < (s.size : Int)) = false := by simp; omega
    have q1 : s[0].toNat = 48 := by rw [q0, h5]
    clear h1 h2 h3 h4 h5 hlen q0 ha e0 hx loop
    go_enter Tryz.func59, Tryz.ntmps59
    go_wp2_with fail
    go_loopw [4, 5] (fun v i wr => ∃ k : Nat, k ≤ s.size ∧ i = .int .i64 k ∧ v = .int .i64 (digs 0 (x.take k)) ∧ (x.take k).all isDig = true ∧ Below w.heap.size w wr) (fun _ i _ => s.size - (intOf i).toNat)
    case atStart => exact ⟨0, by omega, rfl, rfl, rfl, Below.refl _ _⟩
    case round =>
      obtain ⟨k, hk, rfl, rfl, hd, hB⟩ := hrel
      have HB := Lib.hid hB
      clear hB
      have hv := digs_lt (x.take k) 0 hd
      have hp7 : 10 ^ (x.take k).length ≤ 10 ^ 7 := Nat.pow_le_pow_right (by omega) (by rw [List.length_take]; omega)
      have hv7 : digs 0 (x.take k) < 10000000 := by omega
      clear hv hp7
      by_cases hlt : k < s.size
      · have hkx : k < x.length := by have := HLN.out; omega
        have HT := Lib.hid (digs_take x k hkx)
        have HAL := Lib.hid (all_take x k hkx)
        have hxk : x[k] = s[k] := by have h9 := HXD.out; subst h9; exact bytes_at s k hlt hkx
        have HNA := Lib.hid (fun h : isDig x[k] = false => not_all hkx h)
        rw [hxk] at HT HAL HNA
        obtain ⟨b, hb⟩ : ∃ b : UInt8, b = s[k] := ⟨_, rfl⟩
        have qk : s[k].toNat = b.toNat := by rw [hb]
        rw [← hb] at HT HAL HNA
        have ik0 : (0 : Int) ≤ (k : Int) := by omega
        have ik1 : (k : Int) < (s.size : Int) := by omega
        have bb : b.toNat < 256 := UInt8.toNat_lt b
        generalize digs 0 (x.take k) = D at hv7 HT
        clear hb hxk
        by_cases hdig : isDig b = true
        · have hdb := hdig
          simp only [isDig, Bool.and_eq_true, decide_eq_true_eq] at hdb
          obtain ⟨b48, b57⟩ := hdb
          have t1 : decide ((b.toNat : Int) < 48) = false := by simp; omega
          have t2 : decide ((57 : Int) < (b.toNat : Int)) = false := by simp; omega
          have HD := Lib.hid hdig
          have HDT := Lib.hid hd
          clear hdig hd
          go_wp2_with fail
          go_roundw
          case rel =>
            refine ⟨k + 1, by omega, by go_num, ?_, by rw [HAL.out, HDT.out, HD.out]; rfl, HB.out⟩
            rw [HT.out, show (10 * (D : Int) + ((b.toNat : Int) - 48)) = ((10 * D + (b.toNat - 48) : Nat) : Int) by omega]
          case measure => simp [intOf]; omega
        · have HN := Lib.hid (numE7_none (x := x) (by
            unfold numT
            rw [if_neg HX.out, if_neg (HNA.out (by simpa using hdig))]))
          by_cases t : b.toNat < 48
          · have t1 : decide ((b.toNat : Int) < 48) = true := by simp; omega
            clear hdig hd
            go_wp2_with fail
            go_ret2
            exact ⟨by rw [HN.out]; rfl, HB.out⟩
          · have t1 : decide ((b.toNat : Int) < 48) = false := by simp; omega
            have t2 : decide ((57 : Int) < (b.toNat : Int)) = true := by
              simp only [isDig, Bool.and_eq_true, decide_eq_true_eq] at hdig
              simp
              omega
            clear hdig hd
            go_wp2_with fail
            go_ret2
            exact ⟨by rw [HN.out]; rfl, HB.out⟩
      · have hkx : x.take k = x := List.take_of_length_le (by have := HLN.out; omega)
        rw [hkx] at hd ⊢
        have HN := Lib.hid (numE7_some (x := x) (n := digs 0 x) (by
          unfold numT
          rw [if_neg HX.out, if_pos hd]
          rfl))
        go_wp2_with fail
        go_ret2
        exact ⟨by rw [HN.out]; rfl, HB.out⟩
  · have hb4 : decide ((a.toNat : Int) = 48) = false := by simp; omega
    have q1 : ¬ (s[0].toNat : Int) = 48 := by rw [q0]; omega
    clear h1 h2 h3 h4 h5 hlen q0 ha e0 hx loop hb4
    go_enter Tryz.func59, Tryz.ntmps59
    go_wp2_with fail
    go_loopw [4, 5] (fun v i wr => ∃ k : Nat, k ≤ s.size ∧ i = .int .i64 k ∧ v = .int .i64 (digs 0 (x.take k)) ∧ (x.take k).all isDig = true ∧ Below w.heap.size w wr) (fun _ i _ => s.size - (intOf i).toNat)
    case atStart => exact ⟨0, by omega, rfl, rfl, rfl, Below.refl _ _⟩
    case round =>
      obtain ⟨k, hk, rfl, rfl, hd, hB⟩ := hrel
      have HB := Lib.hid hB
      clear hB
      have hv := digs_lt (x.take k) 0 hd
      have hp7 : 10 ^ (x.take k).length ≤ 10 ^ 7 := Nat.pow_le_pow_right (by omega) (by rw [List.length_take]; omega)
      have hv7 : digs 0 (x.take k) < 10000000 := by omega
      clear hv hp7
      by_cases hlt : k < s.size
      · have hkx : k < x.length := by have := HLN.out; omega
        have HT := Lib.hid (digs_take x k hkx)
        have HAL := Lib.hid (all_take x k hkx)
        have hxk : x[k] = s[k] := by have h9 := HXD.out; subst h9; exact bytes_at s k hlt hkx
        have HNA := Lib.hid (fun h : isDig x[k] = false => not_all hkx h)
        rw [hxk] at HT HAL HNA
        obtain ⟨b, hb⟩ : ∃ b : UInt8, b = s[k] := ⟨_, rfl⟩
        have qk : s[k].toNat = b.toNat := by rw [hb]
        rw [← hb] at HT HAL HNA
        have ik0 : (0 : Int) ≤ (k : Int) := by omega
        have ik1 : (k : Int) < (s.size : Int) := by omega
        have bb : b.toNat < 256 := UInt8.toNat_lt b
        generalize digs 0 (x.take k) = D at hv7 HT
        clear hb hxk
        by_cases hdig : isDig b = true
        · have hdb := hdig
          simp only [isDig, Bool.and_eq_true, decide_eq_true_eq] at hdb
          obtain ⟨b48, b57⟩ := hdb
          have t1 : decide ((b.toNat : Int) < 48) = false := by simp; omega
          have t2 : decide ((57 : Int) < (b.toNat : Int)) = false := by simp; omega
          have HD := Lib.hid hdig
          have HDT := Lib.hid hd
          clear hdig hd
          go_wp2_with fail
          go_roundw
          case rel =>
            refine ⟨k + 1, by omega, by go_num, ?_, by rw [HAL.out, HDT.out, HD.out]; rfl, HB.out⟩
            rw [HT.out, show (10 * (D : Int) + ((b.toNat : Int) - 48)) = ((10 * D + (b.toNat - 48) : Nat) : Int) by omega]
          case measure => simp [intOf]; omega
        · have HN := Lib.hid (numE7_none (x := x) (by
            unfold numT
            rw [if_neg HX.out, if_neg (HNA.out (by simpa using hdig))]))
          by_cases t : b.toNat < 48
          · have t1 : decide ((b.toNat : Int) < 48) = true := by simp; omega
            clear hdig hd
            go_wp2_with fail
            go_ret2
            exact ⟨by rw [HN.out]; rfl, HB.out⟩
          · have t1 : decide ((b.toNat : Int) < 48) = false := by simp; omega
            have t2 : decide ((57 : Int) < (b.toNat : Int)) = true := by
              simp only [isDig, Bool.and_eq_true, decide_eq_true_eq] at hdig
              simp
              omega
            clear hdig hd
            go_wp2_with fail
            go_ret2
            exact ⟨by rw [HN.out]; rfl, HB.out⟩
      · have hkx : x.take k = x := List.take_of_length_le (by have := HLN.out; omega)
        rw [hkx] at hd ⊢
        have HN := Lib.hid (numE7_some (x := x) (n := digs 0 x) (by
          unfold numT
          rw [if_neg HX.out, if_pos hd]
          rfl))
        go_wp2_with fail
        go_ret2
        exact ⟨by rw [HN.out]; rfl, HB.out⟩

end Go.Proofs.YtkphgdkjjklajaaGreatDoor

namespace Go.Proofs.YtkphgdkjjklajaaGreatDoor
open Go.RowKit

/-- how far a text is cut -/
def SpI (c : UInt8) (x : List UInt8) (i f : Nat) (out : List (List UInt8)) : Prop :=
  (i ≤ x.length ∧ f ≤ i ∧ splitT c x = out ++ splitT c (x.drop f) ∧ c ∉ (x.drop f).take (i - f)) ∨ (i = x.length + 1 ∧ splitT c x = out)
theorem part_bytes (s : ByteArray) (f i : Nat) : s.extract f i = ⟨((s.data.toList.drop f).take (i - f)).toArray⟩ := by
  rw [← bytes_back (s.extract f i)]
  congr 2
  rw [Lib.extract_data, List.take_drop]
/-- where a text is cut: what is cut off already, and the rest -/
theorem split_mid {c : UInt8} {s : List UInt8} {out : List (List UInt8)} {f i : Nat} (h : splitT c s = out ++ splitT c (s.drop f)) (hfi : f ≤ i) (hi : i < s.length) (hno : c ∉ (s.drop f).take (i - f)) (hc : s[i] = c) :
    splitT c s = (out ++ [(s.drop f).take (i - f)]) ++ splitT c (s.drop (i + 1)) := by
  have h1 : s.drop f = (s.drop f).take (i - f) ++ c :: s.drop (i + 1) := by
    have h2 : s.drop f = (s.drop f).take (i - f) ++ (s.drop f).drop (i - f) := (List.take_append_drop _ _).symm
    rw [List.drop_drop, show f + (i - f) = i by omega, List.drop_eq_getElem_cons hi, hc] at h2
    exact h2
  rw [h, (congrArg (splitT c) h1).trans (splitT_hit hno _), List.append_assoc]
  rfl
theorem split_end {c : UInt8} {s : List UInt8} {out : List (List UInt8)} {f : Nat} (h : splitT c s = out ++ splitT c (s.drop f)) (hno : c ∉ (s.drop f).take (s.length - f)) : splitT c s = out ++ [(s.drop f).take (s.length - f)] := by
  have h1 : (s.drop f).take (s.length - f) = s.drop f := List.take_of_length_le (by simp)
  rw [h1] at hno ⊢
  rw [h, splitT_none hno]
theorem no_next {c : UInt8} {s : List UInt8} {f i : Nat} (hfi : f ≤ i) (hi : i < s.length) (hno : c ∉ (s.drop f).take (i - f)) (hc : s[i] ≠ c) : c ∉ (s.drop f).take (i + 1 - f) := by
  rw [show i + 1 - f = (i - f) + 1 by omega, List.take_succ_eq_append_getElem (by rw [List.length_drop]; omega)]
  simp only [List.mem_append, List.mem_singleton, not_or]
  refine ⟨hno, ?_⟩
  rw [List.getElem_drop]
  intro e
  apply hc
  rw [e]
  congr 1
  omega

theorem row_snoc {W : World} {base : Nat} {e : TypeId} {A : Option Addr} {c : Nat} {out : List (List UInt8)} {x : List UInt8} (h : W.ownsRow base e 1 (.slice A (out.length + 1) c) (out.length + 1) (out.flatMap encT ++ [.string ⟨x.toArray⟩])) :
    W.ownsRow base e 1 (.slice A (out ++ [x]).length c) (out ++ [x]).length ((out ++ [x]).flatMap encT) := by
  rw [List.length_append, List.length_singleton, List.flatMap_append]
  simpa [encT] using h

set_option maxRecDepth 100000 in
set_option maxHeartbeats 2000000 in
theorem qsplit_any (c : UInt8) (s : ByteArray) (W : World) (hs : s.size ≤ 100000) :
    Calls Tryz.prog 37 #[.string s, .int .u8 c.toNat] W fun e W' => ∃ A' c' b', e = .returned (.slice A' (splitT c s.data.toList).length c') ∧ Sl encT 1 W' b' A' (splitT c s.data.toList).length (splitT c s.data.toList) ∧ Below W.heap.size W W' := by
  have hlen := bytes_len s
  obtain ⟨x, hx⟩ : ∃ x, x = s.data.toList := ⟨_, rfl⟩
  rw [← hx] at hlen ⊢
  have HXD := Lib.hid hx
  have HLN := Lib.hid hlen
  obtain ⟨i0, hi, iz0, iz1, iz2⟩ := info_parts info_string
  clear hx hlen
  go_enter Tryz.func37, Tryz.ntmps37
  go_wp2_with fail
  go_loopw [5, 6, 7] (fun v f i wr => ∃ (k g c' : Nat) (A' : Option Addr) (out : List (List UInt8)), k ≤ s.size + 1 ∧ i = .int .i64 k ∧ f = .int .i64 g ∧ v = .slice A' out.length c' ∧ out.length ≤ k ∧ SpI c x k g out ∧ wr.ownsRow W.heap.size 9 1 (.slice A' out.length c') out.length (out.flatMap encT) ∧ Below W.heap.size W wr) (fun _ _ i _ => s.size + 1 - (intOf i).toNat)
  case atStart => exact ⟨0, 0, 0, none, [], by omega, rfl, rfl, rfl, Nat.le_refl _, .inl ⟨Nat.zero_le _, Nat.le_refl _, by simp, by simp⟩, World.ownsRow_nil _ _ _ _, Below.refl _ _⟩
  case round =>
    obtain ⟨k, f, c', A', out, hk, rfl, rfl, rfl, hm, hsp, hown, hB⟩ := hrel
    have HB := Lib.hid hB
    have HOW := Lib.hid hown
    have hzr := hB.size
    clear hB hown
    have hll := HLN.out
    by_cases hks : k ≤ s.size
    · rcases hsp with ⟨_, hfk, hcut, hno⟩ | ⟨h9, _⟩
      · have HC := Lib.hid hcut
        have HNO := Lib.hid hno
        have HEX := Lib.hid (part_bytes s f k)
        have ik0 : (0 : Int) ≤ (k : Int) := by omega
        have ikf : (f : Int) ≤ (k : Int) := by omega
        have if0 : (0 : Int) ≤ (f : Int) := by omega
        have iks : (k : Int) ≤ (s.size : Int) := by omega
        clear hcut hno
        by_cases hlt : k < s.size
        · have hne : ((k : Int) == (s.size : Int)) = false := by rw [beq_eq_false_iff_ne]; omega
          have ilt : (k : Int) < (s.size : Int) := by omega
          have hkx : k < x.length := by omega
          have hxk : x[k] = s[k] := by have h9 := HXD.out; subst h9; exact bytes_at s k hlt hkx
          have HX := Lib.hid hxk
          clear hxk
          by_cases hc : s[k] = c
          · have q : ((s[k].toNat : Int) == (c.toNat : Int)) = true := by rw [hc]; exact beq_self_eq_true _
            have HN := Lib.hid (split_mid HC.out hfk hkx HNO.out (HX.out.trans hc))
            clear hc
            go_wp2_with (at_builtin; refine wpList_append_lies _ rfl _ _ 32 rfl W.heap.size 9 i0 _ 1 16 Tryz.underlying32 hi iz0 iz1 iz2 rfl (by omega) _ out.length _ (by rfl) (HOW.out.alloc _) ⟨wr.heap.size, 0, none⟩ 1 1 [.string (s.extract f k)] (by rfl) (by rfl) (World.news_of_block (heap_alloc_new wr _)) (by simp [Value.oneCell']) (by omega) (by unfold maxLen; omega) (by omega) (by rw [World.size_alloc]; omega) (wr.heap.size + 1) (by simp) ?_; intro g cap w3 hown3 hgrow hat hlt3)
            have HB3 := Lib.hid (below_own (HOW.out.alloc _) hgrow (HB.out.alloc hzr _) (Nat.le_refl _) (Nat.le_refl _))
            rw [HEX.out] at hown3
            have HO3 := Lib.hid (row_snoc hown3)
            clear hown3 hgrow hat hlt3
            go_roundw
            case rel => exact ⟨k + 1, k + 1, cap, _, out ++ [(x.drop f).take (k - f)], by omega, by go_num, by go_num, by rw [List.length_append, List.length_singleton], by rw [List.length_append, List.length_singleton]; omega, .inl ⟨by omega, by omega, HN.out, by simp⟩, by rw [HXD.out]; exact HO3.out, HB3.out⟩
            case measure => simp [intOf]; omega
          · have q : ((s[k].toNat : Int) == (c.toNat : Int)) = false := by
              rw [beq_eq_false_iff_ne]
              intro e
              exact hc (UInt8.toNat_inj.1 (by omega))
            have hor : (((k : Int) == (s.size : Int)) || ((s[k].toNat : Int) == (c.toNat : Int))) = false := by rw [hne, q]; rfl
            have HN := Lib.hid (no_next hfk hkx HNO.out (fun e => hc (HX.out.symm.trans e)))
            go_wp2_with fail
            go_roundw
            case rel => exact ⟨k + 1, f, c', A', out, by omega, by go_num, rfl, rfl, by omega, .inl ⟨by omega, by omega, HC.out, HN.out⟩, HOW.out, HB.out⟩
            case measure => simp [intOf]; omega
        · obtain rfl : k = s.size := by omega
          have HN := Lib.hid (split_end HC.out (by rw [HLN.out]; exact HNO.out))
          go_wp2_with (at_builtin; refine wpList_append_lies _ rfl _ _ 32 rfl W.heap.size 9 i0 _ 1 16 Tryz.underlying32 hi iz0 iz1 iz2 rfl (by omega) _ out.length _ (by rfl) (HOW.out.alloc _) ⟨wr.heap.size, 0, none⟩ 1 1 [.string (s.extract f s.size)] (by rfl) (by rfl) (World.news_of_block (heap_alloc_new wr _)) (by simp [Value.oneCell']) (by omega) (by unfold maxLen; omega) (by omega) (by rw [World.size_alloc]; omega) (wr.heap.size + 1) (by simp) ?_; intro g cap w3 hown3 hgrow hat hlt3)
          have HB3 := Lib.hid (below_own (HOW.out.alloc _) hgrow (HB.out.alloc hzr _) (Nat.le_refl _) (Nat.le_refl _))
          rw [HEX.out] at hown3
          have HO3 := Lib.hid (row_snoc hown3)
          clear hown3 hgrow hat hlt3
          go_roundw
          case rel => exact ⟨s.size + 1, s.size + 1, cap, _, out ++ [(x.drop f).take (s.size - f)], by omega, by go_num, by go_num, by rw [List.length_append, List.length_singleton], by rw [List.length_append, List.length_singleton]; omega, .inr ⟨by omega, by rw [← HLN.out]; exact HN.out⟩, by rw [HXD.out]; exact HO3.out, HB3.out⟩
          case measure => simp [intOf]
      · omega
    · rcases hsp with ⟨h9, _⟩ | ⟨_, hdone⟩
      · omega
      · have HD := Lib.hid hdone
        have HK := Lib.hid (show k = s.size + 1 by omega)
        obtain ⟨b', _, hS⟩ := Sl.of_own encT_len rfl HOW.out
        have HSS := Lib.hid hS
        clear hdone hS
        go_wp2_with fail
        go_ret
        exact ⟨A', c', b', by rw [HD.out]; rfl, by rw [HD.out]; exact HSS.out, HB.out⟩
end Go.Proofs.YtkphgdkjjklajaaGreatDoor

namespace Go.Proofs.YtkphgdkjjklajaaGreatDoor
open Go.RowKit

/-- what stands behind a word -/
def numbersT (wd : List UInt8) (m : Nat) (x : List UInt8) : Option (List Int) := match splitT 32 x with
  | [] => none
  | w :: ws => if w = wd ∧ ws.length = m ∧ ws.all okW7 = true then some (ws.map valW7) else none
def NumsPost (o : Option (List Int)) (W : World) (e : Ending) (W' : World) : Prop :=
  ∃ A c b, e = .returned (.tuple #[.slice A (o.getD []).length c, .bool o.isSome]) ∧ Sl encI 1 W' b A (o.getD []).length (o.getD []) ∧ W.heap.size ≤ b ∧ Below W.heap.size W W'
theorem numsPost_none {W W' : World} (h : Below W.heap.size W W') : NumsPost none W (.returned (.tuple #[.slice none 0 0, .bool false])) W' := ⟨none, 0, W.heap.size, rfl, Sl.nil _ _ _, Nat.le_refl _, h⟩
/-- a row of a trail, as the reference takes it -/
def stepQ (s : NS) (b m e : Option (List Int)) : Option NS :=
  if s.en then none
  else if (b.isSome && decide (s.ms.length = 0)) = true then some { s with bs := s.bs ++ [atN (b.getD []) 0] }
  else if m.isSome = true then some { s with ms := s.ms ++ [⟨atN (m.getD []) 0, atN (m.getD []) 1, atN (m.getD []) 2⟩] }
  else if (e.isSome && decide (atN (e.getD []) 0 = s.ms.length)) = true then some { s with en := true }
  else none
theorem numbersT_len {wd : List UInt8} {m : Nat} {x : List UInt8} {l : List Int} (h : numbersT wd m x = some l) : l.length = m := by
  unfold numbersT at h
  split at h
  · cases h
  · split at h
    · rename_i hc
      injection h with h
      rw [← h, List.length_map, hc.2.1]
    · cases h
theorem stepN_q (s : NS) (y : List UInt8) : stepN s y = stepQ s (numbersT wBat 1 y) (numbersT wMov 3 y) (numbersT wFin 1 y) := by
  unfold stepN stepQ numbersT
  cases hs : splitT 32 y with
  | nil => exact absurd hs (splitT_ne 32 y)
  | cons w ws =>
    simp only
    cases hen : s.en
    · simp only [Bool.false_eq_true, if_false]
      by_cases ha : ws.all okW7 = true
      · simp only [ha, and_true, if_true]
        unfold stepNW
        have n1 : ¬ wBat = wMov := by decide
        have n2 : ¬ wBat = wFin := by decide
        have n3 : ¬ wMov = wFin := by decide
        have n4 : ¬ wMov = wBat := by decide
        have n5 : ¬ wFin = wBat := by decide
        have n6 : ¬ wFin = wMov := by decide
        by_cases hB : w = wBat
        · subst hB
          by_cases h1 : ws.length = 1 <;> by_cases h0 : s.ms.length = 0 <;> simp [h1, h0, n1, n2, hen]
        · by_cases hM : w = wMov
          · subst hM
            by_cases h3 : ws.length = 3 <;> simp [h3, n3, n4, hen]
          · by_cases hF : w = wFin
            · subst hF
              by_cases h1 : ws.length = 1 <;> simp [h1, n5, n6, hen]
            · simp [hB, hM, hF]
      · simp [ha]
    · simp
theorem splitQ_many (c : UInt8) : ∀ (s : List UInt8), (splitT c s).length ≤ s.length + 1
  | [] => by simp [splitT]
  | x :: r => by
    unfold splitT
    have ih := splitQ_many c r
    split
    · simp; omega
    · split
      · simp
      · rename_i a t ht
        rw [ht] at ih
        simp at ih ⊢
        omega
theorem qsplit32 (s : ByteArray) (W : World) (hs : s.size ≤ 100000) :
    Calls Tryz.prog 37 #[.string s, .int .u8 32] W fun e W' => ∃ A' c' b', e = .returned (.slice A' (splitT 32 s.data.toList).length c') ∧ Sl encT 1 W' b' A' (splitT 32 s.data.toList).length (splitT 32 s.data.toList) ∧ Below W.heap.size W W' := qsplit_any 32 s W hs
theorem qsplit10 (s : ByteArray) (W : World) (hs : s.size ≤ 100000) :
    Calls Tryz.prog 37 #[.string s, .int .u8 10] W fun e W' => ∃ A' c' b', e = .returned (.slice A' (splitT 10 s.data.toList).length c') ∧ Sl encT 1 W' b' A' (splitT 10 s.data.toList).length (splitT 10 s.data.toList) ∧ Below W.heap.size W W' := qsplit_any 10 s W hs
theorem bytes_eqQ (a b : List UInt8) : ((ByteArray.mk a.toArray).toList == (ByteArray.mk b.toArray).toList) = decide (a = b) := by
  rw [ByteArray.toList_eq, ByteArray.toList_eq]
  by_cases h : a = b
  · subst h; simp
  · simp [h]

set_option maxRecDepth 100000 in
set_option maxHeartbeats 2000000 in
theorem qnumbers_any (s : ByteArray) (wd : List UInt8) (m : Nat) (W : World) (hs : s.size ≤ 100000) (hm : m ≤ 1000) : Calls Tryz.prog 38 #[.string s, .string ⟨wd.toArray⟩, .int .i64 m] W (NumsPost (numbersT wd m s.data.toList) W) := by
  have hlen := bytes_len s
  obtain ⟨x, hx⟩ : ∃ x, x = s.data.toList := ⟨_, rfl⟩
  obtain ⟨i0, hi, iz0, iz1, iz2⟩ := info_parts info_int
  go_enter Tryz.func38, Tryz.ntmps38
  go_wp2_with fail
  refine (qsplit32 s W hs).mono ?_
  rw [← hx]
  obtain ⟨w0, ws, hL⟩ : ∃ w0 ws, splitT 32 x = w0 :: ws := by
    cases h : splitT 32 x with
    | nil => exact absurd h (splitT_ne 32 x)
    | cons a r => exact ⟨a, r, rfl⟩
  rw [hL]
  rintro e w1 ⟨A1, c1, b1, rfl, hS, hB⟩
  have hlenM : ws.length ≤ 100001 := by have h5 := splitQ_many 32 x; rw [hL] at h5; simp at h5; rw [hx] at h5; omega
  have HNT := Lib.hid (show numbersT wd m x = if w0 = wd ∧ ws.length = m ∧ ws.all okW7 = true then some (ws.map valW7) else none by unfold numbersT; rw [hL])
  have HS := Lib.hid hS
  have HB := Lib.hid hB
  have HXX := Lib.hid hx
  have hzw : W.heap.size ≤ w1.heap.size := hB.size
  obtain ⟨o, ho, hgz, hc0⟩ := hS.atT (k := 0) (by simp)
  subst ho
  simp only [List.getElem_cons_zero, Nat.add_zero] at hc0
  obtain ⟨sw, hsw⟩ : ∃ sw : ByteArray, sw = ⟨w0.toArray⟩ := ⟨_, rfl⟩
  obtain ⟨kw, hkw⟩ : ∃ kw : ByteArray, kw = ⟨wd.toArray⟩ := ⟨_, rfl⟩
  have hwe : (sw.toList == kw.toList) = decide (w0 = wd) := by rw [hsw, hkw]; exact bytes_eqQ w0 wd
  rw [← hsw] at hc0
  rw [← hkw]
  have HKW := Lib.hid hkw
  have HSW := Lib.hid hsw
  clear hL hS hB hx hgz hsw hkw
  simp only [List.length_cons]
  by_cases hw : w0 = wd
  · have hwe1 : (sw.toList == kw.toList) = true := by rw [hwe]; exact decide_eq_true hw
    by_cases hn : ws.length = m
    · have hne : ((ws.length : Int) + 1 != (m : Int) + 1) = false := by simp; omega
      have HN2 := Lib.hid (show numbersT wd m x = if ws.all okW7 = true then some (ws.map valW7) else none by rw [HNT.out]; simp only [hw, hn, true_and])
      have HM := Lib.hid hn
      clear hwe hw hn
      go_wp2_with fail
      go_loopw [9, 10] (fun v i wr => ∃ (k c' : Nat) (A' : Option Addr), k ≤ ws.length ∧ i = .int .i64 ((k + 1 : Nat) : Int) ∧ v = .slice A' k c' ∧ (ws.take k).all okW7 = true ∧ wr.ownsRow w1.heap.size 3 1 (.slice A' k c') k (((ws.take k).map valW7).flatMap encI) ∧ Below w1.heap.size w1 wr) (fun _ i _ => ws.length + 1 - (intOf i).toNat)
      case atStart => exact ⟨0, 0, none, by omega, rfl, rfl, rfl, World.ownsRow_nil _ _ _ _, Below.refl _ _⟩
      case round =>
        obtain ⟨k, c', A', hk, rfl, rfl, hok, hown, hB'⟩ := hrel
        have HB' := Lib.hid hB'
        have HOW := Lib.hid hown
        have HOK := Lib.hid hok
        have hzr := hB'.size
        clear hB' hown hok hc0 hwe1 hne
        by_cases hlt : k < ws.length
        · obtain ⟨o, ho, hgz, hcy⟩ := (HS.out.old HB'.out).atT (k := k + 1) (by simp; omega)
          injection ho with ho
          injection ho with _ ho
          subst ho
          rw [List.getElem_cons_succ] at hcy
          have HTK := Lib.hid (show (ws.take (k + 1)).all okW7 = ((ws.take k).all okW7 && okW7 ws[k]) by rw [List.take_succ_eq_append_getElem hlt, List.all_append]; simp)
          have HMP := Lib.hid (show ((ws.take (k + 1)).map valW7).flatMap encI = ((ws.take k).map valW7).flatMap encI ++ encI (valW7 ws[k]) by rw [List.take_succ_eq_append_getElem hlt, List.map_append, List.flatMap_append]; simp)
          have HNO := Lib.hid (fun h : okW7 ws[k] = false => (show numbersT wd m x = none by
            rw [HN2.out]
            have : ¬ ws.all okW7 = true := fun e => by rw [List.all_eq_true] at e; rw [e _ (List.getElem_mem hlt)] at h; cases h
            rw [if_neg this]))
          generalize ws[k] = y at hcy HTK HMP HNO
          obtain ⟨sy, hsy⟩ : ∃ sy : ByteArray, sy = ⟨y.toArray⟩ := ⟨_, rfl⟩
          have hyd : sy.data.toList = y := by rw [hsy]
          rw [← hsy] at hcy
          have ik0 : (0 : Int) ≤ ((k + 1 : Nat) : Int) := by omega
          have ik1 : ((k + 1 : Nat) : Int) < ((ws.length + 1 : Nat) : Int) := by omega
          have ik2 : (0 : Int) ≤ (k : Int) + 1 := by omega
          have ik3 : (k : Int) + 1 < (ws.length : Int) + 1 := by omega
          have HSY := Lib.hid hsy
          clear hsy
          cases hoy : okW7 y
          · have HE := Lib.hid (show numE7 y = .tuple #[.int .i64 0, .bool false] from numE7_none (by simpa [okW7] using hoy))
            go_wp2_with fail
            refine (qnumber_any sy _).mono ?_
            rw [hyd, HE.out]
            rintro e w2 ⟨rfl, hB2⟩
            have HB2 := Lib.hid (HB'.out.trans (hB2.mono hzr))
            clear hB2 hcy
            go_wp2_with fail
            go_ret2
            rw [← HXX.out, HNO.out hoy]
            exact numsPost_none (HB.out.trans (HB2.out.mono hzw))
          · obtain ⟨n, hn⟩ : ∃ n, numT 7 y = some n := by simpa [okW7, Option.isSome_iff_exists] using hoy
            have HE := Lib.hid (show numE7 y = .tuple #[.int .i64 n, .bool true] from numE7_some hn)
            have HVW := Lib.hid (show valW7 y = (n : Int) by unfold valW7; rw [hn]; rfl)
            clear hn
            go_wp2_with fail
            refine (qnumber_any sy _).mono ?_
            rw [hyd, HE.out]
            rintro e w2 ⟨rfl, hB2⟩
            have HB2 := Lib.hid (HB'.out.trans (hB2.mono hzr))
            have HOW3 := Lib.hid (ownsRow_below HOW.out hB2 (Nat.le_refl _))
            have hz2 := HB2.out.size
            clear hB2 hcy
            go_wp2_with (at_builtin; refine wpList_append_lies _ rfl _ _ 22 rfl w1.heap.size 3 i0 _ 1 8 Tryz.underlying22 hi iz0 iz1 iz2 rfl (by omega) _ k _ (by rfl) (HOW3.out.alloc _) ⟨w2.heap.size, 0, none⟩ 1 1 [.int .i64 n] (by rfl) (by rfl) (World.news_of_block (heap_alloc_new w2 _)) (by simp [Value.oneCell']) (by omega) (by unfold maxLen; omega) (by omega) (by rw [World.size_alloc]; omega) (w2.heap.size + 1) (by simp) ?_; intro g' cap w4 hown4 hgrow hat hlt4)
            have HB4 := Lib.hid (below_own (HOW3.out.alloc _) hgrow (HB2.out.alloc hz2 _) (Nat.le_refl _) (Nat.le_refl _))
            have HO4 := Lib.hid hown4
            clear hown4 hgrow hat hlt4
            go_roundw
            case rel => exact ⟨k + 1, cap, _, by omega, by go_num, rfl, by rw [HTK.out, HOK.out, hoy]; rfl, by rw [HMP.out, HVW.out]; exact HO4.out, HB4.out⟩
            case measure => simp [intOf]; omega
        · have hkl : ws.take k = ws := List.take_of_length_le (by omega)
          have hkn : k = ws.length := by omega
          rw [hkl] at HOW HOK
          subst hkn
          obtain ⟨b', hb', hSI⟩ := Sl.of_own encI_len (by simp) HOW.out
          have HSI := Lib.hid hSI
          have HP := Lib.hid (show numbersT wd m x = some (ws.map valW7) by rw [HN2.out, if_pos HOK.out])
          clear hSI
          go_wp2_with fail
          go_ret2
          rw [← HXX.out, HP.out]
          exact ⟨A', c', b', by simp, by simpa using HSI.out, Nat.le_trans hzw hb', HB.out.trans (HB'.out.mono hzw)⟩
    · have hne : ((ws.length : Int) + 1 != (m : Int) + 1) = true := by simp; omega
      have HP := Lib.hid (show numbersT wd m x = none by rw [HNT.out]; exact if_neg (fun h => hn h.2.1))
      clear hwe hw hn
      go_wp2_with fail
      go_ret2
      rw [← HXX.out, HP.out]
      exact numsPost_none HB.out
  · have hwe1 : (sw.toList == kw.toList) = false := by rw [hwe]; exact decide_eq_false hw
    have HP := Lib.hid (show numbersT wd m x = none by rw [HNT.out]; exact if_neg (fun h => hw h.1))
    clear hwe hw
    go_wp2_with fail
    go_ret2
    rw [← HXX.out, HP.out]
    exact numsPost_none HB.out
theorem qnumB (s : ByteArray) (W : World) (hs : s.size ≤ 100000) : Calls Tryz.prog 38 #[.string s, .string ⟨#[98, 97, 116, 99, 104]⟩, .int .i64 1] W (NumsPost (numbersT wBat 1 s.data.toList) W) := qnumbers_any s wBat 1 W hs (by omega)
theorem qnumM (s : ByteArray) (W : World) (hs : s.size ≤ 100000) : Calls Tryz.prog 38 #[.string s, .string ⟨#[109, 111, 118, 101]⟩, .int .i64 3] W (NumsPost (numbersT wMov 3 s.data.toList) W) := qnumbers_any s wMov 3 W hs (by omega)
theorem qnumF (s : ByteArray) (W : World) (hs : s.size ≤ 100000) : Calls Tryz.prog 38 #[.string s, .string ⟨#[101, 110, 100]⟩, .int .i64 1] W (NumsPost (numbersT wFin 1 s.data.toList) W) := qnumbers_any s wFin 1 W hs (by omega)
end Go.Proofs.YtkphgdkjjklajaaGreatDoor

namespace Go.Proofs.YtkphgdkjjklajaaGreatDoor
open Go.RowKit

theorem resRN {w W : World} (hl : Below w.heap.size w W) (hk : Blk W w.heap.size 25 #[.slice none 0 0, .slice none 0 0]) : RN w w.heap.size (w.heap.size + 1) .init none none 0 0 (w.heap.size + 1) W :=
  ⟨hl, hk, World.ownsRow_nil _ _ _ _, World.ownsRow_nil _ _ _ _, fun g e => (by cases e), ⟨Nat.le_refl _, Nat.lt_succ_self _, Nat.le_refl _, hk.lt⟩, fun _ => ⟨rfl, rfl⟩⟩
theorem blk_putN {W : World} {g B j : Nat} {t : TypeId} {cs : Array Value} {v : Value} (h : Blk W g t cs) (hne : g ≠ B) : Blk (W.setCell ⟨B, j, none⟩ v) g t cs :=
  h.grown (only_setCell (only_refl W B) (.inl rfl) v) (fun e => hne (by injection e))
theorem below_drewQ (W : World) (k : Nat) : Below W.heap.size W (W.drewN k) := ⟨rfl, rfl, rfl, Nat.le_refl _, fun _ _ => rfl⟩
theorem splitQ_len (c : UInt8) : ∀ (s y : List UInt8), y ∈ splitT c s → y.length ≤ s.length
  | [], y, h => by simp [splitT] at h; simp [h]
  | x :: r, y, h => by
    unfold splitT at h
    have ih := splitQ_len c r
    split at h
    · rcases List.mem_cons.1 h with rfl | h
      · simp
      · have := ih y h; simp; omega
    · split at h
      · simp at h; simp [h]
      · rename_i a t ht
        rw [ht] at ih
        rcases List.mem_cons.1 h with rfl | h
        · have := ih a List.mem_cons_self; simp; omega
        · have := ih y (List.mem_cons_of_mem _ h); simp; omega
theorem cell_grownQ {W W' : World} {b o : Nat} {u : Value} {row : Option Nat} (h : W.cell? ⟨b, o, none⟩ = some u) (hg : W.grownBy W' row) (hne : some b ≠ row) : W'.cell? ⟨b, o, none⟩ = some u := by
  rw [← h]
  unfold World.cell?
  rw [hg.block b (Lib.lt_of_cell h) hne]
theorem own_capQ {W : World} {base n c sz : Nat} {e : TypeId} {A : Option Addr} {xs : List Value} (h : W.ownsRow base e sz (.slice A n c) n xs) : n ≤ c := by
  rcases h.2 with ⟨hv, hz⟩ | ⟨g, cap, cur, hv, hb, hg, h1, h2, h3, h4⟩
  · omega
  · injection hv with _ _ hv; omega
theorem isSome_len {o : Option (List Int)} {m : Nat} (h : ∀ l, o = some l → l.length = m) (hs : o.isSome = true) : ∃ l, o = some l ∧ l.length = m := by
  cases o with
  | none => cases hs
  | some l => exact ⟨l, rfl, h l rfl⟩

set_option maxRecDepth 100000 in
set_option maxHeartbeats 4000000 in
theorem qread_any (s : ByteArray) (W : World) : Calls Tryz.prog 13 #[.string s] W (ReadNPost (readN s.data.toList) W) := by
  have hlen := bytes_len s
  obtain ⟨x, hx⟩ : ∃ x, x = s.data.toList := ⟨_, rfl⟩
  rw [← hx] at hlen ⊢
  have HXX := Lib.hid hx
  have h0 := Blk.new W 25 #[.slice none 0 0, .slice none 0 0]
  have B0 : Below W.heap.size W (W.alloc (.cells #[.slice none 0 0, .slice none 0 0] 25)) := by go_grown
  clear hx
  by_cases h3 : 1500 < s.size
  · have HR := Lib.hid (show readN x = .no 0 10 from if_pos (by omega))
    have hb : decide ((1500 : Int) < (s.size : Int)) = true := by simp; omega
    have HB0 := Lib.hid B0
    have HH := Lib.hid h0
    clear h3 hlen B0 h0
    have q0 := HH.out.cell 0
    have q1 := HH.out.cell 1
    go_enter Tryz.func13, Tryz.ntmps13
    go_wp2_with fail
    refine bodyPost_ret (v := .tuple #[.agg #[.slice none 0 0, .slice none 0 0], .int .i64 0, .int .i64 10]) (by simp [results, Tryz.results13, go_sem, q0, q1]; try omega) rfl ?_
    rw [HR.out]
    exact ⟨none, none, 0, 0, 0, 0, rfl, ⟨Sl.nil _ _ _, Sl.nil _ _ _, Nat.le_refl _, Nat.le_refl _⟩, HB0.out⟩
  have hb : decide ((1500 : Int) < (s.size : Int)) = false := by simp; omega
  have HB0 := Lib.hid B0
  have HH := Lib.hid h0
  have hs3 : s.size ≤ 1500 := by omega
  clear h3 B0 h0
  obtain ⟨im, him, jz0, jz1, jz2⟩ := info_parts info_moveN
  obtain ⟨i0, hi, iz0, iz1, iz2⟩ := info_parts info_int
  go_enter Tryz.func13, Tryz.ntmps13
  go_wp2_with fail
  refine (qsplit10 s _ (by omega)).mono ?_
  rw [← HXX.out]
  obtain ⟨L, hL⟩ : ∃ L, L = splitT 10 x := ⟨_, rfl⟩
  rw [← hL]
  have hLn : L ≠ [] := by rw [hL]; exact splitT_ne 10 x
  have hL1 : 1 ≤ L.length := List.length_pos_iff.2 hLn
  have hLm : L.length ≤ 1501 := by have := splitQ_many 10 x; rw [hL]; omega
  have HLL := Lib.hid hL
  rintro e w1 ⟨A1, c1, g, rfl, hS, hB⟩
  have hzw := HB0.out.size
  have hz1 := hB.size
  simp only [World.size_alloc] at hz1
  have HR0 := Lib.hid (show RN W w1.heap.size (w1.heap.size + 1) .init none none 0 0 (w1.heap.size + 1) (w1.alloc (.cells #[.slice none 0 0, .slice none 0 0] 25)) from ⟨(Below.step hB HB0.out (Nat.le_refl _)).alloc (by omega) _, Blk.new _ _ _, World.ownsRow_nil _ _ _ _, World.ownsRow_nil _ _ _ _, fun g e => (by cases e), ⟨by omega, Nat.lt_succ_self _, Nat.le_refl _, by rw [World.size_alloc]; omega⟩, fun _ => ⟨rfl, rfl⟩⟩)
  have HK0 := Lib.hid ((HH.out.below hB HH.out.lt).alloc (.cells #[.slice none 0 0, .slice none 0 0] 25))
  have hgz := hS.lt hL1
  have HS := Lib.hid (hS.alloc (.cells #[.slice none 0 0, .slice none 0 0] 25))
  have il : (1 : Int) ≤ (L.length : Int) := by omega
  have HY := Lib.hid (fun y (hy : y ∈ L) => (show y.length ≤ 1500 by have h5 := splitQ_len 10 x y (by rw [← HLL.out]; exact hy); omega))
  obtain ⟨R, hR⟩ : ∃ R, R = L.take (L.length - 1) := ⟨_, rfl⟩
  have hRl : R.length = L.length - 1 := by rw [hR, List.length_take]; omega
  have HR := Lib.hid hR
  have iL : ((L.length - 1 : Nat) : Int) = (L.length : Int) - 1 := by omega
  clear hB hS HB0 hL hR HH
  go_wp2_with fail
  go_loopw [7, 8] (fun en i wr => ∃ (k : Nat) (q : NS) (Ab Am : Option Addr) (cb cm b2 : Nat), k ≤ R.length ∧ i = .int .i64 k ∧ en = .bool q.en ∧ q.bs.length + q.ms.length ≤ k ∧ runN 0 .init R = runN k q (R.drop k) ∧ RN W w1.heap.size (w1.heap.size + 1) q Ab Am cb cm b2 wr ∧ Sl encT 1 wr g A1 L.length L ∧ Blk wr W.heap.size 25 #[.slice none 0 0, .slice none 0 0]) (fun _ i _ => R.length - (intOf i).toNat)
  case atStart => exact ⟨0, .init, none, none, 0, 0, w1.heap.size + 1, Nat.zero_le _, rfl, rfl, Nat.le_refl _, rfl, HR0.out, HS.out, HK0.out⟩
  case round =>
    obtain ⟨k, q, Ab, Am, cb, cm, b2, hk, rfl, rfl, hql, hrun, hrb, hsl, hkr⟩ := hrel
    have HRUN := Lib.hid hrun
    have HRB := Lib.hid hrb
    have HSL := Lib.hid hsl
    have HKR := Lib.hid hkr
    have hzr := hrb.lo
    clear hrun hrb hsl hkr HR0 HS HK0
    by_cases hlt : k < R.length
    · have hkL : k < L.length := by omega
      obtain ⟨o, rfl, hgw, hcy⟩ := HSL.out.atT hkL
      have hyl := HY.out L[k] (List.getElem_mem hkL)
      have HRK := Lib.hid (show R[k] = L[k] by have h9 := HR.out; subst h9; exact List.getElem_take)
      have HST := Lib.hid (fun q' => runN_step (s := q) (s' := q') hlt)
      have HSP := Lib.hid (runN_stop (s := q) hlt)
      rw [HRK.out] at HST HSP
      generalize L[k] = y at hcy hyl HST HSP
      obtain ⟨sy, hsy⟩ : ∃ sy : ByteArray, sy = ⟨y.toArray⟩ := ⟨_, rfl⟩
      have hyd : sy.data.toList = y := by rw [hsy]
      have hysz : sy.size = y.length := by rw [← hyd]; exact (bytes_len sy).symm
      rw [← hsy] at hcy
      have ik0 : (0 : Int) ≤ (k : Int) := by omega
      have ik1 : (k : Int) < (L.length : Int) - 1 := by omega
      have ik2 : (k : Int) < (L.length : Int) := by omega
      have HSQ := Lib.hid (stepN_q q y)
      have HLB := Lib.hid (fun l h => @numbersT_len wBat 1 y l h)
      have HLM := Lib.hid (fun l h => @numbersT_len wMov 3 y l h)
      have HLE := Lib.hid (fun l h => @numbersT_len wFin 1 y l h)
      clear hsy HRK
      go_wp2_with fail
      refine (qnumB sy _ (by omega)).mono ?_
      rw [hyd]
      obtain ⟨oB, hoB⟩ : ∃ o, o = numbersT wBat 1 y := ⟨_, rfl⟩
      rw [← hoB] at HSQ HLB ⊢
      clear hoB
      rintro e w2 ⟨AB, cB, bB, rfl, hlB, hbB, hB2⟩
      have hcy2 := cell_old hcy hB2
      have HR2 := Lib.hid (HRB.out.below hB2)
      have HSL2 := Lib.hid (HSL.out.old hB2)
      have HK2 := Lib.hid (HKR.out.below hB2 HKR.out.lt)
      have HLB2 := Lib.hid hlB
      have hz2 := hB2.size
      clear hcy hlB hB2
      go_wp2_with fail
      refine (qnumM sy _ (by omega)).mono ?_
      rw [hyd]
      obtain ⟨oM, hoM⟩ : ∃ o, o = numbersT wMov 3 y := ⟨_, rfl⟩
      rw [← hoM] at HSQ HLM ⊢
      clear hoM
      rintro e w3 ⟨AM, cM, bM, rfl, hlM, hbM, hB3⟩
      have hcy3 := cell_old hcy2 hB3
      have HR3 := Lib.hid (HR2.out.below hB3)
      have HSL3 := Lib.hid (HSL2.out.old hB3)
      have HK3 := Lib.hid (HK2.out.below hB3 HK2.out.lt)
      have HLB3 := Lib.hid (HLB2.out.old hB3)
      have HLM3 := Lib.hid hlM
      have hz3 := hB3.size
      clear hcy2 hlM hB3
      go_wp2_with fail
      refine (qnumF sy _ (by omega)).mono ?_
      rw [hyd]
      obtain ⟨oE, hoE⟩ : ∃ o, o = numbersT wFin 1 y := ⟨_, rfl⟩
      rw [← hoE] at HSQ HLE ⊢
      clear hoE
      rintro e w4 ⟨AE, cE, bE, rfl, hlE, hbE, hB4⟩
      have HR4 := Lib.hid (HR3.out.below hB4)
      have HSL4 := Lib.hid (HSL3.out.old hB4)
      have HK4 := Lib.hid (HK3.out.below hB4 HK3.out.lt)
      have HLB4 := Lib.hid (HLB3.out.old hB4)
      have HLM4 := Lib.hid (HLM3.out.old hB4)
      have HLE4 := Lib.hid hlE
      have hz4 := hB4.size
      clear hcy3 hlE hB4 HR2 HR3 HSL2 HSL3 HK2 HK3 HLB2 HLB3 HLM3 hgw
      have cf1 := HR4.out.hd.cell 1
      cases hen : q.en
      · have HEN := Lib.hid hen
        go_upto_region 15 with fail
        go_cut [9, 11, 12, 13, 14, 15, 16, 17, 18, 19, 20, 21, 61] from 9 to 68 (fun sb sm im se ie k5 k6 k7 k8 k9 ka kb p wx => (sb = .slice AB (oB.getD []).length cB ∧ sm = .slice AM (oM.getD []).length cM ∧ im = .bool oM.isSome ∧ se = .slice AE (oE.getD []).length cE ∧ ie = .bool oE.isSome ∧ k5 = undef ∧ k6 = .string s ∧ k7 = .int .i64 s.size ∧ k8 = .bool false ∧ k9 = undef ∧ ka = .string s ∧ kb = .slice (some ⟨g, o, none⟩) L.length c1) ∧ p = .bool (oB.isSome && decide (q.ms.length = 0)) ∧ wx = w4)
        case first =>
          cases hib : oB.isSome
          · go_wp2_with fail
            go_meet
            exact ⟨⟨rfl, rfl, rfl, rfl, rfl, rfl, rfl, rfl, rfl, rfl, rfl, rfl⟩, by rw [hib]; rfl, rfl⟩
          · by_cases hm0 : q.ms.length = 0
            · have hmb : ((q.ms.length : Int) == 0) = true := by rw [hm0]; rfl
              have hmd : decide (q.ms.length = 0) = true := decide_eq_true hm0
              clear hm0
              go_wp2_with fail
              go_meet
              exact ⟨⟨rfl, rfl, rfl, rfl, rfl, rfl, rfl, rfl, rfl, rfl, rfl, rfl⟩, by rw [hmd, hib]; rfl, rfl⟩
            · have hmb : ((q.ms.length : Int) == 0) = false := by rw [beq_eq_false_iff_ne]; omega
              have hmd : decide (q.ms.length = 0) = false := decide_eq_false hm0
              clear hm0
              go_wp2_with fail
              go_meet
              exact ⟨⟨rfl, rfl, rfl, rfl, rfl, rfl, rfl, rfl, rfl, rfl, rfl, rfl⟩, by rw [hmd, hib]; rfl, rfl⟩
        case rest =>
          obtain ⟨⟨rfl, rfl, rfl, rfl, rfl, rfl, rfl, rfl, rfl, rfl, rfl, rfl⟩, rfl, hwx⟩ := hcut
          obtain rfl := hwx.symm
          cases hbb : (oB.isSome && decide (q.ms.length = 0))
          · cases hom : oM.isSome
            · go_upto_region 19 with fail
              go_cut [15, 16, 17, 18, 19, 20, 21, 94] from 9 to 104 (fun k5 k6 k7 k8 k9 ka kb p wx => (k5 = undef ∧ k6 = .string s ∧ k7 = .int .i64 s.size ∧ k8 = .bool false ∧ k9 = undef ∧ ka = .string s ∧ kb = .slice (some ⟨g, o, none⟩) L.length c1) ∧ p = .bool (oE.isSome && decide (atN (oE.getD []) 0 = q.ms.length)) ∧ Below w4.heap.size w4 wx)
              case first =>
                cases hie : oE.isSome
                · go_quiet (fail)
                  go_wp2_with fail
                  go_meet
                  first
                    | exact ⟨⟨rfl, rfl, rfl, rfl, rfl, rfl, rfl⟩, by rw [hie]; rfl, below_drewQ _ _⟩
                    | exact ⟨⟨rfl, rfl, rfl, rfl, rfl, rfl, rfl⟩, by rw [hie]; rfl, (Below.refl _ _).drew⟩
                    | exact ⟨⟨rfl, rfl, rfl, rfl, rfl, rfl, rfl⟩, by rw [hie]; rfl, Below.refl _ _⟩
                · obtain ⟨lE, rfl, hlE⟩ := isSome_len HLE.out hie
                  obtain ⟨a, rfl⟩ : ∃ a, lE = [a] := List.length_eq_one_iff.1 hlE
                  obtain ⟨oe, rfl, _, u0'⟩ := HLE4.out.atI (k := 0) (by simp)
                  have u0 : w4.cell? ⟨bE, oe, none⟩ = some (.int .i64 a) := u0'
                  have HAD := Lib.hid (show ((a == (q.ms.length : Int)) = decide (atN ((some [a] : Option (List Int)).getD []) 0 = q.ms.length)) from rfl)
                  clear u0'
                  simp only [Option.getD_some, List.length_cons, List.length_nil, Nat.zero_add]
                  go_quiet (fail)
                  go_wp2_with fail
                  go_meet
                  first
                    | exact ⟨⟨rfl, rfl, rfl, rfl, rfl, rfl, rfl⟩, by rw [← HAD.out]; rfl, below_drewQ _ _⟩
                    | exact ⟨⟨rfl, rfl, rfl, rfl, rfl, rfl, rfl⟩, by rw [← HAD.out]; rfl, (Below.refl _ _).drew⟩
                    | exact ⟨⟨rfl, rfl, rfl, rfl, rfl, rfl, rfl⟩, by rw [← HAD.out]; rfl, Below.refl _ _⟩
              case rest =>
                obtain ⟨⟨rfl, rfl, rfl, rfl, rfl, rfl, rfl⟩, rfl, hBc⟩ := hcut
                have HR5 := Lib.hid (HR4.out.below hBc)
                have HSL5 := Lib.hid (HSL4.out.old hBc)
                have HK5 := Lib.hid (HK4.out.below hBc HK4.out.lt)
                clear hBc cf1
                cases hee : (oE.isSome && decide (atN (oE.getD []) 0 = q.ms.length))
                · have HQ := Lib.hid (show stepN q y = none by rw [HSQ.out]; unfold stepQ; rw [HEN.out, hbb, hom, hee]; rfl)
                  have HRD := Lib.hid (show readN x = .no ((k : Int) + 1) 2 from readN_err (by omega) (by rw [← HLL.out, ← HR.out]; exact HRUN.out.trans (HSP.out HQ.out)))
                  have HRX := Lib.hid (resRN HR5.out.low HK5.out)
                  have f0 := HRX.out.hd.frozen 0
                  have f1 := HRX.out.hd.frozen 1
                  have c0 := HRX.out.hd.cell 0
                  have c1 := HRX.out.hd.cell 1
                  obtain ⟨hzb, hzk⟩ := HRX.out.zero (.slice none 0 0) (.slice none 0 0)
                  have q0 := hzk.cell 0
                  have q1 := hzk.cell 1
                  have HZB := Lib.hid hzb
                  clear hzb hzk
                  go_wp2_with fail
                  refine bodyPost_ret (v := .tuple #[.agg #[.slice none 0 0, .slice none 0 0], .int .i64 ((k : Int) + 1), .int .i64 (2)]) (by simp [results, Tryz.results13, go_sem, q0, q1]; try omega) rfl ?_
                  rw [HRD.out]
                  first
                    | exact ⟨none, none, 0, 0, 0, 0, rfl, ⟨Sl.nil _ _ _, Sl.nil _ _ _, Nat.le_refl _, Nat.le_refl _⟩, HZB.out⟩
                    | exact ⟨none, none, 0, 0, 0, 0, rfl, ⟨Sl.nil _ _ _, Sl.nil _ _ _, Nat.le_refl _, Nat.le_refl _⟩, HZB.out.drew⟩
                · have HQ := Lib.hid (show stepN q y = some { q with en := true } by rw [HSQ.out]; unfold stepQ; rw [HEN.out, hbb, hom, hee]; rfl)
                  have HRN := Lib.hid (HRUN.out.trans (HST.out _ HQ.out))
                  go_wp2_with fail
                  go_roundw
                  case rel =>
                    have hrr : ∃ (k' : Nat) (q' : NS) (Ab' Am' : Option Addr) (cb' cm' b2' : Nat), k' ≤ R.length ∧ Value.int .i64 ((k : Int) + 1) = .int .i64 k' ∧ Value.bool true = .bool q'.en ∧ q'.bs.length + q'.ms.length ≤ k' ∧ runN 0 .init R = runN k' q' (R.drop k') ∧ RN W w1.heap.size (w1.heap.size + 1) q' Ab' Am' cb' cm' b2' wc ∧ Sl encT 1 wc g (some ⟨g, o, none⟩) L.length L ∧ Blk wc W.heap.size 25 #[.slice none 0 0, .slice none 0 0] :=
                      ⟨k + 1, { q with en := true }, Ab, Am, cb, cm, b2, by omega, by go_num, rfl, by show q.bs.length + q.ms.length ≤ k + 1; omega, HRN.out, HR5.out.last true, HSL5.out, HK5.out⟩
                    first
                      | exact hrr
                      | ((repeat apply Exists.intro); exact ⟨hrr, rfl⟩)
                  case measure => simp [intOf]; omega
            · obtain ⟨lM, rfl, hlM⟩ := isSome_len HLM.out hom
              obtain ⟨a0, a1, a2, rfl⟩ : ∃ a0 a1 a2, lM = [a0, a1, a2] := by
                match lM, hlM with
                | [a0, a1, a2], _ => exact ⟨a0, a1, a2, rfl⟩
              obtain ⟨ol, rfl, _, u0⟩ := HLM4.out.atI (k := 0) (by simp)
              obtain ⟨o1, ho1, _, u1⟩ := HLM4.out.atI (k := 1) (by simp)
              obtain ⟨o2, ho2, _, u2⟩ := HLM4.out.atI (k := 2) (by simp)
              obtain rfl : ol = o1 := by injection ho1 with h; injection h
              obtain rfl : ol = o2 := by injection ho2 with h; injection h
              have HU := Lib.hid (show w4.cell? ⟨bM, ol, none⟩ = some (.int .i64 a0) ∧ w4.cell? ⟨bM, ol + 1, none⟩ = some (.int .i64 a1) ∧ w4.cell? ⟨bM, ol + 2, none⟩ = some (.int .i64 a2) from ⟨u0, u1, u2⟩)
              have HQ := Lib.hid (show stepN q y = some { q with ms := q.ms ++ [⟨a0, a1, a2⟩] } by rw [HSQ.out]; unfold stepQ; rw [HEN.out, hbb]; rfl)
              have HRN := Lib.hid (HRUN.out.trans (HST.out _ HQ.out))
              have hlo4 := HR4.out.lo
              have hk15 : k ≤ 1500 := by omega
              clear u0 u1 u2 ho1 ho2 cf1
              simp only [Option.getD_some, List.length_cons, List.length_nil, Nat.zero_add, Nat.reduceAdd]
              go_upto_region 18 with fail
              refine wp_region_PL [1, 4, 7, 10] (fun W' => W'.cell? ⟨w1.heap.size, 1, none⟩ = some (.slice Am q.ms.length cm) ∧ W'.cell? ⟨bM, ol, none⟩ = some (.int .i64 a0) ∧ W'.cell? ⟨bM, ol + 1, none⟩ = some (.int .i64 a1) ∧ W'.cell? ⟨bM, ol + 2, none⟩ = some (.int .i64 a2)) rfl (by kernel_rfl) (⟨HR4.out.hd.cell 1, HU.out⟩) (fun hF0 => ?_)
              (refine wpAnyP_takeL (i := 0) (v := ?_) rfl (by kernel_rfl) (by kernel_rfl) (by kernel_rfl) (fun _ _ _ h => h) (by rfl) ?_ ?_; rotate_left 1; focus (intro w; go_simp; try with_reducible rfl))
              try simp only [Act.put, List.setIfInBounds_toArray, List.set_cons_zero, List.set_cons_succ]
              (refine wpAnyP_loadL (i := 1) (v := ?_) rfl (by kernel_rfl) (by kernel_rfl) (by kernel_rfl) (by rfl) (fun _ _ _ h => h) hF0 (by rfl) ?_ ?_; rotate_left 1; focus (intro w hFw; (try dsimp only at hFw); go_split_ands; go_simp; try with_reducible rfl))
              try simp only [Act.put, List.setIfInBounds_toArray, List.set_cons_zero, List.set_cons_succ]
              (refine wpAnyP_takeL (i := 2) (v := ?_) rfl (by kernel_rfl) (by kernel_rfl) (by kernel_rfl) (fun _ _ _ h => h) (by rfl) ?_ ?_; rotate_left 1; focus (intro w; go_simp; try with_reducible rfl))
              try simp only [Act.put, List.setIfInBounds_toArray, List.set_cons_zero, List.set_cons_succ]
              (refine wpAnyP_takeL (i := 3) (v := ?_) rfl (by kernel_rfl) (by kernel_rfl) (by kernel_rfl) (fun _ _ _ h => h) (by rfl) ?_ ?_; rotate_left 1; focus (intro w; go_simp; try with_reducible rfl))
              try simp only [Act.put, List.setIfInBounds_toArray, List.set_cons_zero, List.set_cons_succ]
              (refine wpAnyP_loadL (i := 4) (v := ?_) rfl (by kernel_rfl) (by kernel_rfl) (by kernel_rfl) (by rfl) (fun _ _ _ h => h) hF0 (by rfl) ?_ ?_; rotate_left 1; focus (intro w hFw; (try dsimp only at hFw); go_split_ands; go_simp; try with_reducible rfl))
              try simp only [Act.put, List.setIfInBounds_toArray, List.set_cons_zero, List.set_cons_succ]
              (refine wpAnyP_takeL (i := 5) (v := ?_) rfl (by kernel_rfl) (by kernel_rfl) (by kernel_rfl) (fun _ _ _ h => h) (by rfl) ?_ ?_; rotate_left 1; focus (intro w; go_simp; try with_reducible rfl))
              try simp only [Act.put, List.setIfInBounds_toArray, List.set_cons_zero, List.set_cons_succ]
              (refine wpAnyP_takeL (i := 6) (v := ?_) rfl (by kernel_rfl) (by kernel_rfl) (by kernel_rfl) (fun _ _ _ h => h) (by rfl) ?_ ?_; rotate_left 1; focus (intro w; go_simp; try with_reducible rfl))
              try simp only [Act.put, List.setIfInBounds_toArray, List.set_cons_zero, List.set_cons_succ]
              (refine wpAnyP_loadL (i := 7) (v := ?_) rfl (by kernel_rfl) (by kernel_rfl) (by kernel_rfl) (by rfl) (fun _ _ _ h => h) hF0 (by rfl) ?_ ?_; rotate_left 1; focus (intro w hFw; (try dsimp only at hFw); go_split_ands; go_simp; try with_reducible rfl))
              try simp only [Act.put, List.setIfInBounds_toArray, List.set_cons_zero, List.set_cons_succ]
              (refine wpAnyP_takeL (i := 8) (v := ?_) rfl (by kernel_rfl) (by kernel_rfl) (by kernel_rfl) (fun _ _ _ h => h) (by rfl) ?_ ?_; rotate_left 1; focus (intro w; go_simp; try with_reducible rfl))
              try simp only [Act.put, List.setIfInBounds_toArray, List.set_cons_zero, List.set_cons_succ]
              (refine wpAnyP_takeL (i := 9) (v := ?_) rfl (by kernel_rfl) (by kernel_rfl) (by kernel_rfl) (fun _ _ _ h => h) (by rfl) ?_ ?_; rotate_left 1; focus (intro w; go_simp; try with_reducible rfl))
              try simp only [Act.put, List.setIfInBounds_toArray, List.set_cons_zero, List.set_cons_succ]
              (refine wpAnyP_loadL (i := 10) (v := ?_) rfl (by kernel_rfl) (by kernel_rfl) (by kernel_rfl) (by rfl) (fun _ _ _ h => h) hF0 (by rfl) ?_ ?_; rotate_left 1; focus (intro w hFw; (try dsimp only at hFw); go_split_ands; go_simp; try with_reducible rfl))
              try simp only [Act.put, List.setIfInBounds_toArray, List.set_cons_zero, List.set_cons_succ]
              (refine wpAnyP_takeL (i := 11) (v := ?_) rfl (by kernel_rfl) (by kernel_rfl) (by kernel_rfl) (fun _ _ _ h => h) (by rfl) ?_ ?_; rotate_left 1; focus (intro w; go_simp; try with_reducible rfl))
              try simp only [Act.put, List.setIfInBounds_toArray, List.set_cons_zero, List.set_cons_succ]
              refine wpAnyP_step (i := 12) rfl (by kernel_rfl) (by rfl) (fun K hK => ?_)
              go_simp
              (have HR6 := Lib.hid (HR4.out.alloc (.cells #[.int .i64 a0, .int .i64 a1, .int .i64 a2] 58)).drew; have HSL6 := Lib.hid (HSL4.out.alloc (.cells #[.int .i64 a0, .int .i64 a1, .int .i64 a2] 58)).drew; have HK6 := Lib.hid (HK4.out.alloc (.cells #[.int .i64 a0, .int .i64 a1, .int .i64 a2] 58)).drew; have HNS := Lib.hid (Sl.new encM_len w4 [(⟨a0, a1, a2⟩ : Mv)] 58 #[.int .i64 a0, .int .i64 a1, .int .i64 a2] rfl).drew; have HBA := Lib.hid ((Below.refl _ w4).alloc (Nat.le_refl _) (.cells #[.int .i64 a0, .int .i64 a1, .int .i64 a2] 58)).drew; have HU6 := Lib.hid (And.intro (cell_old HU.out.1 HBA.out) (And.intro (cell_old HU.out.2.1 HBA.out) (cell_old HU.out.2.2 HBA.out))))
              (refine hK _ _ (⟨HR6.out.hd.cell 1, HU6.out⟩) (fun hF1 => ?_); clear hK K hF0)
              try simp only [Act.put, List.setIfInBounds_toArray, List.set_cons_zero, List.set_cons_succ]
              refine wpAnyP_step (i := 13) rfl (by kernel_rfl) (by rfl) (fun K hK => ?_)
              (refine wp_append_sl _ _ 23 rfl b2 58 im _ 24 Tryz.underlying23 him jz0 jz1 jz2 rfl (by omega) encM_len _ q.ms.length _ (by rfl) HR6.out.rm w4.heap.size (some ⟨w4.heap.size, 0, none⟩) 1 1 [(⟨a0, a1, a2⟩ : Mv)] (by rfl) HNS.out oneMN (by unfold maxLen; omega) (by omega) (by have := HR6.out.lo; omega) ?_; intro A3 c3 w6 hown6 hg6 _; obtain ⟨hr7, hk7⟩ := HR6.out.mov ⟨a0, a1, a2⟩ hown6 hg6; have HRN7 := Lib.hid hr7; have q0 := hk7.frozen 1; have q1 := hk7.cell 1; have HSL7 := Lib.hid ((HSL6.out.grown hg6 (fun _ e => by have := (HR6.out.rm.lt g e.symm).1; omega)).setCell (p := ⟨w1.heap.size, 1, none⟩) (fun _ => by show g ≠ w1.heap.size; omega) (.slice A3 (q.ms.length + 1) c3)); have HK7 := Lib.hid (blk_putN (j := 1) (v := .slice A3 (q.ms.length + 1) c3) (HK6.out.grown hg6 (fun e => by have := (HR6.out.rm.lt W.heap.size e.symm).1; omega)) (show W.heap.size ≠ w1.heap.size by omega)); have hnb := (fun e => by have := (HRB.out.rm.lt bM e.symm).2; omega : some bM ≠ Value.ownBlock (.slice Am q.ms.length cm)); have hu7 := And.intro (cell_grownQ HU6.out.1 hg6 hnb) (And.intro (cell_grownQ HU6.out.2.1 hg6 hnb) (cell_grownQ HU6.out.2.2 hg6 hnb)); clear hr7 hk7)
              (refine hK _ _ (⟨q1, hu7⟩) (fun hF2 => ?_); clear hK K hF1)
              try simp only [Act.put, List.setIfInBounds_toArray, List.set_cons_zero, List.set_cons_succ]
              (refine wpAnyP_takeL (i := 14) (v := ?_) rfl (by kernel_rfl) (by kernel_rfl) (by kernel_rfl) (fun _ _ _ h => h) (by rfl) ?_ ?_; rotate_left 1; focus (intro w; go_simp; try with_reducible rfl))
              try simp only [Act.put, List.setIfInBounds_toArray, List.set_cons_zero, List.set_cons_succ]
              refine wpAnyP_last (i := 15) rfl (by kernel_rfl) (by kernel_rfl) (by rfl) (fun K hK => ?_)
              go_simp
              (refine hK _ _ ?_; clear hK K)
              try simp only [Act.put, List.setIfInBounds_toArray, List.set_cons_zero, List.set_cons_succ]
              refine wpAnyP_done (by kernel_rfl) ?_ _
              clear q0 q1
              go_wp2_with fail
              go_roundw
              case rel =>
                first
                  | exact ⟨k + 1, { q with ms := q.ms ++ [⟨a0, a1, a2⟩] }, Ab, A3, cb, c3, b2, by omega, by go_num, by rw [HEN.out], by simp; omega, HRN.out, HRN7.out, HSL7.out, HK7.out⟩
                  | ((repeat apply Exists.intro); exact ⟨⟨k + 1, { q with ms := q.ms ++ [⟨a0, a1, a2⟩] }, Ab, A3, cb, c3, b2, by omega, by go_num, by rw [HEN.out], by simp; omega, HRN.out, HRN7.out, HSL7.out, HK7.out⟩, rfl⟩)
                  | exact ⟨k + 1, { q with ms := q.ms ++ [⟨a0, a1, a2⟩] }, Ab, A3, cb, c3, b2, by omega, by go_num, by rw [HEN.out], by simp; omega, HRN.out, HRN7.out.drew, HSL7.out.drew, HK7.out.drew⟩
                  | ((repeat apply Exists.intro); exact ⟨⟨k + 1, { q with ms := q.ms ++ [⟨a0, a1, a2⟩] }, Ab, A3, cb, c3, b2, by omega, by go_num, by rw [HEN.out], by simp; omega, HRN.out, HRN7.out.drew, HSL7.out.drew, HK7.out.drew⟩, rfl⟩)
              case measure => simp [intOf]; omega
          · have hbb2 := hbb
            rw [Bool.and_eq_true, decide_eq_true_eq] at hbb2
            obtain ⟨hib, hm0⟩ := hbb2
            have HM0 := Lib.hid hm0
            obtain ⟨lB, rfl, hlB⟩ := isSome_len HLB.out hib
            obtain ⟨a, rfl⟩ : ∃ a, lB = [a] := List.length_eq_one_iff.1 hlB
            obtain ⟨ol, rfl, _, u0⟩ := HLB4.out.atI (k := 0) (by simp)
            have HU := Lib.hid (show w4.cell? ⟨bB, ol, none⟩ = some (.int .i64 a) from u0)
            have HQ := Lib.hid (show stepN q y = some { q with bs := q.bs ++ [a] } by rw [HSQ.out]; unfold stepQ; rw [HEN.out, hbb]; rfl)
            have HRN := Lib.hid (HRUN.out.trans (HST.out _ HQ.out))
            have hlo4 := HR4.out.lo
            have hk15 : k ≤ 1500 := by omega
            clear u0 cf1 hm0 hbb
            simp only [Option.getD_some, List.length_cons, List.length_nil, Nat.zero_add]
            go_upto_region 16 with fail
            refine wp_region_PL [1, 4] (fun W' => W'.cell? ⟨w1.heap.size, 0, none⟩ = some (.slice Ab q.bs.length cb) ∧ W'.cell? ⟨bB, ol, none⟩ = some (.int .i64 a)) rfl (by kernel_rfl) (⟨HR4.out.hd.cell 0, HU.out⟩) (fun hF0 => ?_)
            (refine wpAnyP_takeL (i := 0) (v := ?_) rfl (by kernel_rfl) (by kernel_rfl) (by kernel_rfl) (fun _ _ _ h => h) (by rfl) ?_ ?_; rotate_left 1; focus (intro w; go_simp; try with_reducible rfl))
            try simp only [Act.put, List.setIfInBounds_toArray, List.set_cons_zero, List.set_cons_succ]
            (refine wpAnyP_loadL (i := 1) (v := ?_) rfl (by kernel_rfl) (by kernel_rfl) (by kernel_rfl) (by rfl) (fun _ _ _ h => h) hF0 (by rfl) ?_ ?_; rotate_left 1; focus (intro w hFw; (try dsimp only at hFw); go_split_ands; go_simp; try with_reducible rfl))
            try simp only [Act.put, List.setIfInBounds_toArray, List.set_cons_zero, List.set_cons_succ]
            (refine wpAnyP_takeL (i := 2) (v := ?_) rfl (by kernel_rfl) (by kernel_rfl) (by kernel_rfl) (fun _ _ _ h => h) (by rfl) ?_ ?_; rotate_left 1; focus (intro w; go_simp; try with_reducible rfl))
            try simp only [Act.put, List.setIfInBounds_toArray, List.set_cons_zero, List.set_cons_succ]
            (refine wpAnyP_takeL (i := 3) (v := ?_) rfl (by kernel_rfl) (by kernel_rfl) (by kernel_rfl) (fun _ _ _ h => h) (by rfl) ?_ ?_; rotate_left 1; focus (intro w; go_simp; try with_reducible rfl))
            try simp only [Act.put, List.setIfInBounds_toArray, List.set_cons_zero, List.set_cons_succ]
            (refine wpAnyP_loadL (i := 4) (v := ?_) rfl (by kernel_rfl) (by kernel_rfl) (by kernel_rfl) (by rfl) (fun _ _ _ h => h) hF0 (by rfl) ?_ ?_; rotate_left 1; focus (intro w hFw; (try dsimp only at hFw); go_split_ands; go_simp; try with_reducible rfl))
            try simp only [Act.put, List.setIfInBounds_toArray, List.set_cons_zero, List.set_cons_succ]
            refine wpAnyP_step (i := 5) rfl (by kernel_rfl) (by rfl) (fun K hK => ?_)
            go_simp
            (have HR6 := Lib.hid (HR4.out.alloc (.cells #[.int .i64 a] 3)).drew; have HSL6 := Lib.hid (HSL4.out.alloc (.cells #[.int .i64 a] 3)).drew; have HK6 := Lib.hid (HK4.out.alloc (.cells #[.int .i64 a] 3)).drew; have HNS := Lib.hid (Sl.newI w4 [a] 3).drew; have HU6 := Lib.hid (cell_old HU.out ((Below.refl _ w4).alloc (Nat.le_refl _) (.cells #[.int .i64 a] 3)).drew))
            (refine hK _ _ (⟨HR6.out.hd.cell 0, HU6.out⟩) (fun hF1 => ?_); clear hK K hF0)
            try simp only [Act.put, List.setIfInBounds_toArray, List.set_cons_zero, List.set_cons_succ]
            refine wpAnyP_step (i := 6) rfl (by kernel_rfl) (by rfl) (fun K hK => ?_)
            (refine wp_append_sl _ _ 22 rfl (w1.heap.size + 1) 3 i0 _ 8 Tryz.underlying22 hi iz0 iz1 iz2 rfl (by omega) encI_len _ q.bs.length _ (by rfl) HR6.out.rb w4.heap.size (some ⟨w4.heap.size, 0, none⟩) 1 1 [a] (by rfl) HNS.out oneI (by unfold maxLen; omega) (by omega) (by have := HR6.out.lo; omega) ?_; intro A3 c3 w6 hown6 hg6 _; obtain ⟨hr7, hk7⟩ := HR6.out.bat a HM0.out hown6 hg6; have HRN7 := Lib.hid hr7; have q0 := hk7.frozen 0; have q1 := hk7.cell 0; have HSL7 := Lib.hid ((HSL6.out.grown hg6 (fun _ e => by have := (HR6.out.rb.lt g e.symm).1; omega)).setCell (p := ⟨w1.heap.size, 0, none⟩) (fun _ => by show g ≠ w1.heap.size; omega) (.slice A3 (q.bs.length + 1) c3)); have HK7 := Lib.hid (blk_putN (j := 0) (v := .slice A3 (q.bs.length + 1) c3) (HK6.out.grown hg6 (fun e => by have := (HR6.out.rb.lt W.heap.size e.symm).1; omega)) (show W.heap.size ≠ w1.heap.size by omega)); have hu7 := cell_grownQ HU6.out hg6 (fun e => by have := (HRB.out.rb.lt bB e.symm).2; omega); clear hr7 hk7)
            (refine hK _ _ (⟨q1, hu7⟩) (fun hF2 => ?_); clear hK K hF1)
            try simp only [Act.put, List.setIfInBounds_toArray, List.set_cons_zero, List.set_cons_succ]
            (refine wpAnyP_takeL (i := 7) (v := ?_) rfl (by kernel_rfl) (by kernel_rfl) (by kernel_rfl) (fun _ _ _ h => h) (by rfl) ?_ ?_; rotate_left 1; focus (intro w; go_simp; try with_reducible rfl))
            try simp only [Act.put, List.setIfInBounds_toArray, List.set_cons_zero, List.set_cons_succ]
            refine wpAnyP_last (i := 8) rfl (by kernel_rfl) (by kernel_rfl) (by rfl) (fun K hK => ?_)
            go_simp
            (refine hK _ _ ?_; clear hK K)
            try simp only [Act.put, List.setIfInBounds_toArray, List.set_cons_zero, List.set_cons_succ]
            refine wpAnyP_done (by kernel_rfl) ?_ _
            clear q0 q1
            go_wp2_with fail
            go_roundw
            case rel =>
              first
                | exact ⟨k + 1, { q with bs := q.bs ++ [a] }, A3, Am, c3, cm, w6.heap.size, by omega, by go_num, by rw [HEN.out], by simp; omega, HRN.out, HRN7.out, HSL7.out, HK7.out⟩
                | ((repeat apply Exists.intro); exact ⟨⟨k + 1, { q with bs := q.bs ++ [a] }, A3, Am, c3, cm, w6.heap.size, by omega, by go_num, by rw [HEN.out], by simp; omega, HRN.out, HRN7.out, HSL7.out, HK7.out⟩, rfl⟩)
                | exact ⟨k + 1, { q with bs := q.bs ++ [a] }, A3, Am, c3, cm, w6.heap.size, by omega, by go_num, by rw [HEN.out], by simp; omega, HRN.out, HRN7.out.drew, HSL7.out.drew, HK7.out.drew⟩
                | ((repeat apply Exists.intro); exact ⟨⟨k + 1, { q with bs := q.bs ++ [a] }, A3, Am, c3, cm, w6.heap.size, by omega, by go_num, by rw [HEN.out], by simp; omega, HRN.out, HRN7.out.drew, HSL7.out.drew, HK7.out.drew⟩, rfl⟩)
            case measure => simp [intOf]; omega
      · have HQ := Lib.hid (show stepN q y = none by rw [HSQ.out]; unfold stepQ; rw [hen]; rfl)
        have HRD := Lib.hid (show readN x = .no ((k : Int) + 1) 2 from readN_err (by omega) (by rw [← HLL.out, ← HR.out]; exact HRUN.out.trans (HSP.out HQ.out)))
        clear cf1
        have HRX := Lib.hid (resRN HR4.out.low HK4.out)
        have f0 := HRX.out.hd.frozen 0
        have f1 := HRX.out.hd.frozen 1
        have c0 := HRX.out.hd.cell 0
        have c1 := HRX.out.hd.cell 1
        obtain ⟨hzb, hzk⟩ := HRX.out.zero (.slice none 0 0) (.slice none 0 0)
        have q0 := hzk.cell 0
        have q1 := hzk.cell 1
        have HZB := Lib.hid hzb
        clear hzb hzk
        go_wp2_with fail
        refine bodyPost_ret (v := .tuple #[.agg #[.slice none 0 0, .slice none 0 0], .int .i64 ((k : Int) + 1), .int .i64 (2)]) (by simp [results, Tryz.results13, go_sem, q0, q1]; try omega) rfl ?_
        rw [HRD.out]
        first
          | exact ⟨none, none, 0, 0, 0, 0, rfl, ⟨Sl.nil _ _ _, Sl.nil _ _ _, Nat.le_refl _, Nat.le_refl _⟩, HZB.out⟩
          | exact ⟨none, none, 0, 0, 0, 0, rfl, ⟨Sl.nil _ _ _, Sl.nil _ _ _, Nat.le_refl _, Nat.le_refl _⟩, HZB.out.drew⟩
    · have hkR : k = R.length := by omega
      have hrn : runN 0 .init R = .inl q := by
        have h9 := HRUN.out
        rw [List.drop_of_length_le (by omega)] at h9
        exact h9
      have HRN := Lib.hid (show runN 0 .init ((splitT 10 x).take ((splitT 10 x).length - 1)) = .inl q by rw [← HLL.out, ← HR.out]; exact hrn)
      have hlast : L.length - 1 < L.length := by omega
      obtain ⟨o, rfl, hgw, hcy⟩ := HSL.out.atT hlast
      have HLA := Lib.hid (show (splitT 10 x).getD ((splitT 10 x).length - 1) [] = L[L.length - 1] by rw [← HLL.out, List.getD_eq_getElem?_getD, List.getElem?_eq_getElem hlast]; rfl)
      have HX3 := Lib.hid (show x.length ≤ 1500 by omega)
      generalize L[L.length - 1] = y at hcy HLA
      obtain ⟨sy, hsy⟩ : ∃ sy : ByteArray, sy = ⟨y.toArray⟩ := ⟨_, rfl⟩
      have hye := word_eqN y []
      rw [← hsy] at hcy hye
      clear hsy hrn hgw
      cases hen : q.en
      · have HRD := Lib.hid (show readN x = .no (L.length : Int) 2 by rw [readN_open HX3.out HRN.out (.inl hen), ← HLL.out])
        have HRX := Lib.hid (resRN HRB.out.low HKR.out)
        have f0 := HRX.out.hd.frozen 0
        have f1 := HRX.out.hd.frozen 1
        have c0 := HRX.out.hd.cell 0
        have c1 := HRX.out.hd.cell 1
        obtain ⟨hzb, hzk⟩ := HRX.out.zero (.slice none 0 0) (.slice none 0 0)
        have q0 := hzk.cell 0
        have q1 := hzk.cell 1
        have HZB := Lib.hid hzb
        clear hzb hzk
        go_wp2_with fail
        refine bodyPost_ret (v := .tuple #[.agg #[.slice none 0 0, .slice none 0 0], .int .i64 ((L.length : Int)), .int .i64 (2)]) (by simp [results, Tryz.results13, go_sem, q0, q1]; try omega) rfl ?_
        rw [HRD.out]
        first
          | exact ⟨none, none, 0, 0, 0, 0, rfl, ⟨Sl.nil _ _ _, Sl.nil _ _ _, Nat.le_refl _, Nat.le_refl _⟩, HZB.out⟩
          | exact ⟨none, none, 0, 0, 0, 0, rfl, ⟨Sl.nil _ _ _, Sl.nil _ _ _, Nat.le_refl _, Nat.le_refl _⟩, HZB.out.drew⟩
      · by_cases hy0 : y = []
        · have hyb : (sy.toList == []) = true := by rw [hye, decide_eq_true hy0]
          have HNE := Lib.hid (show ¬ (q.en = false ∨ (splitT 10 x).getD ((splitT 10 x).length - 1) [] ≠ []) by rw [HLA.out, hen]; simp [hy0])
          obtain ⟨d1, hd1, hSb⟩ := Sl.of_own encI_len rfl HRB.out.rb
          obtain ⟨d2, hd2, hSm⟩ := Sl.of_own encM_len rfl HRB.out.rm
          have HNM := Lib.hid (show NetM wr d1 d2 Ab Am q.bs.length cb q.ms.length cm q.bs q.ms from ⟨hSb, hSm, own_capQ HRB.out.rb, own_capQ HRB.out.rm⟩)
          have e0 := HRB.out.hd.cell 0
          have e1 := HRB.out.hd.cell 1
          obtain ⟨ce, hce⟩ : ∃ z, z = chkNet q.bs q.ms := ⟨_, rfl⟩
          have hlo := HRB.out.lo
          clear hSb hSm
          go_wp2_with fail
          refine (qcheck_any d1 d2 Ab Am q.bs.length cb q.ms.length cm q.bs q.ms _ HNM.out (by omega) (by omega)).mono ?_
          rw [← hce]
          rintro e w2 ⟨rfl, hB2⟩
          have HRB2 := Lib.hid (HRB.out.below hB2)
          have HK2 := Lib.hid (HKR.out.below hB2 HKR.out.lt)
          have HNM2 := Lib.hid (HNM.out.old hB2)
          clear hB2 e0 e1 hcy
          by_cases hc : ce = 0
          · have HRD := Lib.hid (show readN x = ⟨q.bs, q.ms, 0, 0⟩ from readN_ok HX3.out HRN.out HNE.out (hce.symm.trans hc))
            have HN9 := Lib.hid (show NetM ((w2.setCell ⟨W.heap.size, 0, none⟩ (.slice Ab q.bs.length cb)).setCell ⟨W.heap.size, 1, none⟩ (.slice Am q.ms.length cm)) d1 d2 Ab Am q.bs.length cb q.ms.length cm q.bs q.ms from
              ⟨(HNM2.out.b.setCell (p := ⟨W.heap.size, 0, none⟩) (fun _ => by show d1 ≠ W.heap.size; omega) _).setCell (p := ⟨W.heap.size, 1, none⟩) (fun _ => by show d1 ≠ W.heap.size; omega) _, (HNM2.out.m.setCell (p := ⟨W.heap.size, 0, none⟩) (fun _ => by show d2 ≠ W.heap.size; omega) _).setCell (p := ⟨W.heap.size, 1, none⟩) (fun _ => by show d2 ≠ W.heap.size; omega) _, HNM2.out.cb, HNM2.out.cm⟩)
            clear hce
            subst hc
            have HRX := Lib.hid (resRN HRB2.out.low HK2.out)
            have e0 := HRB2.out.hd.cell 0
            have e1 := HRB2.out.hd.cell 1
            have f0 := HRX.out.hd.frozen 0
            have f1 := HRX.out.hd.frozen 1
            have c0 := HRX.out.hd.cell 0
            have c1 := HRX.out.hd.cell 1
            obtain ⟨hzb, hzk⟩ := HRX.out.zero (.slice Ab q.bs.length cb) (.slice Am q.ms.length cm)
            have q0 := hzk.cell 0
            have q1 := hzk.cell 1
            have HZB := Lib.hid hzb
            clear hzb hzk
            go_wp2_with fail
            refine bodyPost_ret (v := .tuple #[.agg #[.slice Ab q.bs.length cb, .slice Am q.ms.length cm], .int .i64 0, .int .i64 0]) (by simp [results, Tryz.results13, go_sem, q0, q1]; try omega) rfl ?_
            rw [HRD.out]
            exact ⟨Ab, Am, cb, cm, d1, d2, rfl, HN9.out, HZB.out⟩
          · have hcb : (ce != 0) = true := by simpa using hc
            have HRD := Lib.hid (show readN x = .no 0 ce from (by rw [hce]; exact readN_bad HX3.out HRN.out HNE.out (by rw [← hce]; exact hc)))
            clear hce
            have HRX := Lib.hid (resRN HRB2.out.low HK2.out)
            have f0 := HRX.out.hd.frozen 0
            have f1 := HRX.out.hd.frozen 1
            have c0 := HRX.out.hd.cell 0
            have c1 := HRX.out.hd.cell 1
            obtain ⟨hzb, hzk⟩ := HRX.out.zero (.slice none 0 0) (.slice none 0 0)
            have q0 := hzk.cell 0
            have q1 := hzk.cell 1
            have HZB := Lib.hid hzb
            clear hzb hzk
            go_wp2_with fail
            refine bodyPost_ret (v := .tuple #[.agg #[.slice none 0 0, .slice none 0 0], .int .i64 (0), .int .i64 (ce)]) (by simp [results, Tryz.results13, go_sem, q0, q1]; try omega) rfl ?_
            rw [HRD.out]
            first
              | exact ⟨none, none, 0, 0, 0, 0, rfl, ⟨Sl.nil _ _ _, Sl.nil _ _ _, Nat.le_refl _, Nat.le_refl _⟩, HZB.out⟩
              | exact ⟨none, none, 0, 0, 0, 0, rfl, ⟨Sl.nil _ _ _, Sl.nil _ _ _, Nat.le_refl _, Nat.le_refl _⟩, HZB.out.drew⟩
        · have hyb : (sy.toList == []) = false := by rw [hye, decide_eq_false hy0]
          have HRD := Lib.hid (show readN x = .no (L.length : Int) 2 by rw [readN_open HX3.out HRN.out (.inr (by rw [HLA.out]; exact hy0)), ← HLL.out])
          have HRX := Lib.hid (resRN HRB.out.low HKR.out)
          have f0 := HRX.out.hd.frozen 0
          have f1 := HRX.out.hd.frozen 1
          have c0 := HRX.out.hd.cell 0
          have c1 := HRX.out.hd.cell 1
          obtain ⟨hzb, hzk⟩ := HRX.out.zero (.slice none 0 0) (.slice none 0 0)
          have q0 := hzk.cell 0
          have q1 := hzk.cell 1
          have HZB := Lib.hid hzb
          clear hzb hzk
          go_wp2_with fail
          refine bodyPost_ret (v := .tuple #[.agg #[.slice none 0 0, .slice none 0 0], .int .i64 ((L.length : Int)), .int .i64 (2)]) (by simp [results, Tryz.results13, go_sem, q0, q1]; try omega) rfl ?_
          rw [HRD.out]
          first
            | exact ⟨none, none, 0, 0, 0, 0, rfl, ⟨Sl.nil _ _ _, Sl.nil _ _ _, Nat.le_refl _, Nat.le_refl _⟩, HZB.out⟩
            | exact ⟨none, none, 0, 0, 0, 0, rfl, ⟨Sl.nil _ _ _, Sl.nil _ _ _, Nat.le_refl _, Nat.le_refl _⟩, HZB.out.drew⟩
end Go.Proofs.YtkphgdkjjklajaaGreatDoor
