/-
  The reference: which words are numbers.
-/
import Derived.Test.YtjmppionedcfeaaGreatDoorNumLaw
set_option linter.unusedVariables false
set_option linter.unusedSimpArgs false
namespace Go.Proofs.YtjmppionedcfeaaGreatDoor
open Go.RowKit

def numE (x : List UInt8) : Value := match numT 6 x with
  | some n => .tuple #[.int .i64 n, .bool true]
  | none => .tuple #[.int .i64 0, .bool false]
theorem numE_none {x : List UInt8} (h : numT 6 x = none) : numE x = .tuple #[.int .i64 0, .bool false] := by unfold numE; rw [h]
theorem numE_some {x : List UInt8} {n : Nat} (h : numT 6 x = some n) : numE x = .tuple #[.int .i64 n, .bool true] := by unfold numE; rw [h]
theorem bytes_len (s : ByteArray) : s.data.toList.length = s.size := by rw [Array.length_toList]; rfl
theorem bytes_at (s : ByteArray) (k : Nat) (h : k < s.size) (h' : k < s.data.toList.length) : s.data.toList[k]'h' = s[k]'h := rfl

theorem digs_take (x : List UInt8) (k : Nat) (hk : k < x.length) : digs 0 (x.take (k + 1)) = 10 * digs 0 (x.take k) + (x[k].toNat - 48) := by
  rw [List.take_succ_eq_append_getElem hk, digs_snoc]
theorem all_take (x : List UInt8) (k : Nat) (hk : k < x.length) : (x.take (k + 1)).all isDig = ((x.take k).all isDig && isDig x[k]) := by
  rw [List.take_succ_eq_append_getElem hk, List.all_append]
  simp
theorem not_all {x : List UInt8} {k : Nat} (hk : k < x.length) (h : isDig x[k] = false) : ¬ x.all isDig = true := fun e => by
  rw [List.all_eq_true] at e
  rw [e _ (List.getElem_mem hk)] at h
  cases h

set_option maxRecDepth 100000 in
set_option maxHeartbeats 1000000 in
theorem number_any (s : ByteArray) (w : World) : Calls Tryz.prog 61 #[.string s] w fun e w' => e = .returned (numE s.data.toList) ∧ Below w.heap.size w w' := by
  have hlen := bytes_len s
  obtain ⟨x, hx⟩ : ∃ x, x = s.data.toList := ⟨_, rfl⟩
  rw [← hx] at hlen ⊢
  by_cases h1 : s.size < 1
  · have HN := Lib.hid (numE_none (x := x) (by unfold numT; rw [if_pos (.inl (by omega))]))
    have hb : decide ((s.size : Int) < 1) = true := by simp; omega
    clear h1 hlen
    go_enter Tryz.func61, Tryz.ntmps61
    go_wp2_with fail
    go_ret2
    exact ⟨by rw [HN.out]; rfl, Below.refl _ _⟩
  have hb1 : decide ((s.size : Int) < 1) = false := by simp; omega
  by_cases h2 : 6 < s.size
  · have HN := Lib.hid (numE_none (x := x) (by unfold numT; rw [if_pos (.inr (.inl (by omega)))]))
    have hb2 : decide ((6 : Int) < (s.size : Int)) = true := by simp; omega
    clear h1 h2 hlen
    go_enter Tryz.func61, Tryz.ntmps61
    go_wp2_with fail
    go_ret2
    exact ⟨by rw [HN.out]; rfl, Below.refl _ _⟩
  have hb2 : decide ((6 : Int) < (s.size : Int)) = false := by simp; omega
  have h0 : 0 < s.size := by omega
  have h0x : 0 < x.length := by omega
  have e0 : x.head? = some s[0] := by
    subst hx
    rw [List.head?_eq_getElem?, List.getElem?_eq_getElem h0x, bytes_at s 0 h0]
  have i0 : (0 : Int) < (s.size : Int) := by omega
  obtain ⟨a, ha⟩ : ∃ a : UInt8, a = s[0] := ⟨_, rfl⟩
  have q0 : s[0].toNat = a.toNat := by rw [ha]
  rw [← ha] at e0
  by_cases h3 : a.toNat = 48 ∧ 1 < s.size
  · have HN := Lib.hid (numE_none (x := x) (by
      have e48 : a = 48 := by rw [← UInt8.ofNat_toNat (x := a), h3.1]; rfl
      unfold numT
      rw [if_pos (.inr (.inr ⟨by rw [e0, e48], by omega⟩))]))
    have hb3 : decide ((1 : Int) < (s.size : Int)) = true := by simp; omega
    have q1 : s[0].toNat = 48 := by rw [q0, h3.1]
    clear h1 h2 h3 hlen q0 ha e0
    go_enter Tryz.func61, Tryz.ntmps61
    go_wp2_with fail
    go_ret2
    exact ⟨by rw [HN.out]; rfl, Below.refl _ _⟩
  have h4 : ¬ (x.length < 1 ∨ 6 < x.length ∨ (x.head? = some 48 ∧ 1 < x.length)) := by
    rintro (h | h | ⟨h, h'⟩)
    · omega
    · omega
    · rw [e0] at h
      injection h with h
      exact h3 ⟨by rw [h]; rfl, by omega⟩
  have HX := Lib.hid h4
  have HXD := Lib.hid hx
  have HLN := Lib.hid hlen
  have hs6 : s.size ≤ 6 := by omega
  have loop : ∀ (K : Prop), K → K := fun _ h => h
  by_cases h5 : a.toNat = 48
  · have hb3 : decide ((1 : Int) < (s.size : Int)) = false := by simp; omega
    have q1 : s[0].toNat = 48 := by rw [q0, h5]
    clear h1 h2 h3 h4 h5 hlen q0 ha e0 hx loop
    go_enter Tryz.func61, Tryz.ntmps61
    go_wp2_with fail
    go_loopw [4, 5] (fun v i wr => ∃ k : Nat, k ≤ s.size ∧ i = .int .i64 k ∧ v = .int .i64 (digs 0 (x.take k)) ∧ (x.take k).all isDig = true ∧ Below w.heap.size w wr) (fun _ i _ => s.size - (intOf i).toNat)
    case atStart => exact ⟨0, by omega, rfl, rfl, rfl, Below.refl _ _⟩
    case round =>
      obtain ⟨k, hk, rfl, rfl, hd, hB⟩ := hrel
      have HB := Lib.hid hB
      clear hB
      have hv := digs_lt (x.take k) 0 hd
      have hp6 : 10 ^ (x.take k).length ≤ 10 ^ 6 := Nat.pow_le_pow_right (by omega) (by rw [List.length_take]; omega)
      have hv6 : digs 0 (x.take k) < 1000000 := by omega
      clear hv hp6
      by_cases hlt : k < s.size
      · have hkx : k < x.length := by have := HLN.out; omega
        have HT := Lib.hid (digs_take x k hkx)
        have HAL := Lib.hid (all_take x k hkx)
        have hxk : x[k] = s[k] := by have h9 := HXD.out; subst h9; exact bytes_at s k hlt hkx
        have HNA := Lib.hid (fun h : isDig x[k] = false => not_all hkx h)
        rw [hxk] at HT HAL HNA
        obtain ⟨b, hb⟩ : ∃ b : UInt8, b = s[k] := ⟨_, rfl⟩
        have qk : s[k].toNat = b.toNat := by rw [hb]
        rw [← hb] at HT HAL HNA
        have ik0 : (0 : Int) ≤ (k : Int) := by omega
        have ik1 : (k : Int) < (s.size : Int) := by omega
        have bb : b.toNat < 256 := UInt8.toNat_lt b
        generalize digs 0 (x.take k) = D at hv6 HT
        clear hb hxk
        by_cases hdig : isDig b = true
        · have hdb := hdig
          simp only [isDig, Bool.and_eq_true, decide_eq_true_eq] at hdb
          obtain ⟨b48, b57⟩ := hdb
          have t1 : decide ((b.toNat : Int) < 48) = false := by simp; omega
          have t2 : decide ((57 : Int) < (b.toNat : Int)) = false := by simp; omega
          have HD := Lib.hid hdig
          have HDT := Lib.hid hd
          clear hdig hd
          go_wp2_with fail
          go_roundw
          case rel =>
            refine ⟨k + 1, by omega, by go_num, ?_, by rw [HAL.out, HDT.out, HD.out]; rfl, HB.out⟩
            rw [HT.out, show (10 * (D : Int) + ((b.toNat : Int) - 48)) = ((10 * D + (b.toNat - 48) : Nat) : Int) by omega]
          case measure => simp [intOf]; omega
        · have HN := Lib.hid (numE_none (x := x) (by
            unfold numT
            rw [if_neg HX.out, if_neg (HNA.out (by simpa using hdig))]))
          by_cases t : b.toNat < 48
          · have t1 : decide ((b.toNat : Int) < 48) = true := by simp; omega
            clear hdig hd
            go_wp2_with fail
            go_ret2
            exact ⟨by rw [HN.out]; rfl, HB.out⟩
          · have t1 : decide ((b.toNat : Int) < 48) = false := by simp; omega
            have t2 : decide ((57 : Int) < (b.toNat : Int)) = true := by
              simp only [isDig, Bool.and_eq_true, decide_eq_true_eq] at hdig
              simp
              omega
            clear hdig hd
            go_wp2_with fail
            go_ret2
            exact ⟨by rw [HN.out]; rfl, HB.out⟩
      · have hkx : x.take k = x := List.take_of_length_le (by have := HLN.out; omega)
        rw [hkx] at hd ⊢
        have HN := Lib.hid (numE_some (x := x) (n := digs 0 x) (by
          unfold numT
          rw [if_neg HX.out, if_pos hd]
          rfl))
        go_wp2_with fail
        go_ret2
        exact ⟨by rw [HN.out]; rfl, HB.out⟩
  · have hb4 : decide ((a.toNat : Int) = 48) = false := by simp; omega
    have q1 : ¬ (s[0].toNat : Int) = 48 := by rw [q0]; omega
    clear h1 h2 h3 h4 h5 hlen q0 ha e0 hx loop hb4
    go_enter Tryz.func61, Tryz.ntmps61
    go_wp2_with fail
    go_loopw [4, 5] (fun v i wr => ∃ k : Nat, k ≤ s.size ∧ i = .int .i64 k ∧ v = .int .i64 (digs 0 (x.take k)) ∧ (x.take k).all isDig = true ∧ Below w.heap.size w wr) (fun _ i _ => s.size - (intOf i).toNat)
    case atStart => exact ⟨0, by omega, rfl, rfl, rfl, Below.refl _ _⟩
    case round =>
      obtain ⟨k, hk, rfl, rfl, hd, hB⟩ := hrel
      have HB := Lib.hid hB
      clear hB
      have hv := digs_lt (x.take k) 0 hd
      have hp6 : 10 ^ (x.take k).length ≤ 10 ^ 6 := Nat.pow_le_pow_right (by omega) (by rw [List.length_take]; omega)
      have hv6 : digs 0 (x.take k) < 1000000 := by omega
      clear hv hp6
      by_cases hlt : k < s.size
      · have hkx : k < x.length := by have := HLN.out; omega
        have HT := Lib.hid (digs_take x k hkx)
        have HAL := Lib.hid (all_take x k hkx)
        have hxk : x[k] = s[k] := by have h9 := HXD.out; subst h9; exact bytes_at s k hlt hkx
        have HNA := Lib.hid (fun h : isDig x[k] = false => not_all hkx h)
        rw [hxk] at HT HAL HNA
        obtain ⟨b, hb⟩ : ∃ b : UInt8, b = s[k] := ⟨_, rfl⟩
        have qk : s[k].toNat = b.toNat := by rw [hb]
        rw [← hb] at HT HAL HNA
        have ik0 : (0 : Int) ≤ (k : Int) := by omega
        have ik1 : (k : Int) < (s.size : Int) := by omega
        have bb : b.toNat < 256 := UInt8.toNat_lt b
        generalize digs 0 (x.take k) = D at hv6 HT
        clear hb hxk
        by_cases hdig : isDig b = true
        · have hdb := hdig
          simp only [isDig, Bool.and_eq_true, decide_eq_true_eq] at hdb
          obtain ⟨b48, b57⟩ := hdb
          have t1 : decide ((b.toNat : Int) < 48) = false := by simp; omega
          have t2 : decide ((57 : Int) < (b.toNat : Int)) = false := by simp; omega
          have HD := Lib.hid hdig
          have HDT := Lib.hid hd
          clear hdig hd
          go_wp2_with fail
          go_roundw
          case rel =>
            refine ⟨k + 1, by omega, by go_num, ?_, by rw [HAL.out, HDT.out, HD.out]; rfl, HB.out⟩
            rw [HT.out, show (10 * (D : Int) + ((b.toNat : Int) - 48)) = ((10 * D + (b.toNat - 48) : Nat) : Int) by omega]
          case measure => simp [intOf]; omega
        · have HN := Lib.hid (numE_none (x := x) (by
            unfold numT
            rw [if_neg HX.out, if_neg (HNA.out (by simpa using hdig))]))
          by_cases t : b.toNat < 48
          · have t1 : decide ((b.toNat : Int) < 48) = true := by simp; omega
            clear hdig hd
            go_wp2_with fail
            go_ret2
            exact ⟨by rw [HN.out]; rfl, HB.out⟩
          · have t1 : decide ((b.toNat : Int) < 48) = false := by simp; omega
            have t2 : decide ((57 : Int) < (b.toNat : Int)) = true := by
              simp only [isDig, Bool.and_eq_true, decide_eq_true_eq] at hdig
              simp
              omega
            clear hdig hd
            go_wp2_with fail
            go_ret2
            exact ⟨by rw [HN.out]; rfl, HB.out⟩
      · have hkx : x.take k = x := List.take_of_length_le (by have := HLN.out; omega)
        rw [hkx] at hd ⊢
        have HN := Lib.hid (numE_some (x := x) (n := digs 0 x) (by
          unfold numT
          rw [if_neg HX.out, if_pos hd]
          rfl))
        go_wp2_with fail
        go_ret2
        exact ⟨by rw [HN.out]; rfl, HB.out⟩
end Go.Proofs.YtjmppionedcfeaaGreatDoor
