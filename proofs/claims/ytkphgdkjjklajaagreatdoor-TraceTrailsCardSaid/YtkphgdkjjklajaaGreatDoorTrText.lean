/-
  Rows of a trail, on both sides; what a net's trail is, in plain words.
-/
import Derived.Test.YtkphgdkjjklajaaGreatDoorText
import Derived.Test.YtkphgdkjjklajaaGreatDoorNet
import Derived.Lib.ItoaLen
import Derived.Deep.CutRange
set_option linter.unusedVariables false
set_option linter.unusedSimpArgs false
namespace Go.Proofs.YtkphgdkjjklajaaGreatDoor
open Go.RowKit

theorem isB_below {T e : TypeId} {B b : Nat} {bs : List Value} {W W' : World} (h : Lib.IsBuilder T e B b bs W) (hb : Below W.heap.size W W') : Lib.IsBuilder T e B b bs W' := by
  have one : ∀ {p : Value}, Lib.BuilderAt T e B b p bs W → Lib.BuilderAt T e B b p bs W' := fun {p} h => by
    have hlt := h.lt
    obtain ⟨h1, v, h2, h3, h4⟩ := h
    exact ⟨h1, v, (hb.block b hlt).trans h2, ownsRow_below h3 hb (Nat.le_refl _), h4⟩
  exact h.elim (fun x => .inl (one x)) (fun x => .inr (one x))

theorem numsT_le : ∀ (l : List Int), (∀ x ∈ l, I64 x) → (numsT l).length ≤ 22 * l.length
  | [], _ => by simp [numsT]
  | x :: r, h => by
    have h1 := numsT_le r (fun y hy => h y (List.mem_cons_of_mem _ hy))
    have h2 := h x List.mem_cons_self
    have h3 := Lib.itoa_length_le x h2.1 h2.2
    have h4 : numsT (x :: r) = (32 :: Lib.itoa x) ++ numsT r := by simp [numsT]
    rw [h4, List.length_append, List.length_cons, List.length_cons]
    omega
theorem i64_of {x : Int} (h0 : 0 ≤ x) (h1 : x ≤ 1000000000000) : I64 x := ⟨by omega, by omega⟩

/- the trail of a net -/
def batR (g : Int) : List UInt8 := rowT [98, 97, 116, 99, 104] [g]
def movR (m : Mv) : List UInt8 := rowT [109, 111, 118, 101] [m.fr, m.to, m.g]
def endR (n : Int) : List UInt8 := rowT [101, 110, 100] [n]
def batsR (bs : List Int) : List UInt8 := bs.flatMap batR
def movsR (ms : List Mv) : List UInt8 := ms.flatMap movR
def trailR (bs : List Int) (ms : List Mv) : List UInt8 := batsR bs ++ movsR ms ++ endR ms.length
def trailT (bs : List Int) (ms : List Mv) : List UInt8 := if chkNet bs ms = 0 then trailR bs ms else []
theorem batsR_snoc (l : List Int) (k : Nat) (hk : k < l.length) : batsR (l.take (k + 1)) = batsR (l.take k) ++ batR l[k] := by
  unfold batsR
  rw [List.take_succ_eq_append_getElem hk, List.flatMap_append, List.flatMap_cons, List.flatMap_nil, List.append_nil]
theorem movsR_snoc (l : List Mv) (k : Nat) (hk : k < l.length) : movsR (l.take (k + 1)) = movsR (l.take k) ++ movR l[k] := by
  unfold movsR
  rw [List.take_succ_eq_append_getElem hk, List.flatMap_append, List.flatMap_cons, List.flatMap_nil, List.append_nil]
theorem batR_le {g : Int} (h : I64 g) : (batR g).length ≤ 40 := by
  have h1 := numsT_le [g] (fun x hx => by simp at hx; subst hx; exact h)
  unfold batR
  rw [rowT_len]
  simp at h1 ⊢
  omega
theorem endR_le {g : Int} (h : I64 g) : (endR g).length ≤ 40 := by
  have h1 := numsT_le [g] (fun x hx => by simp at hx; subst hx; exact h)
  unfold endR
  rw [rowT_len]
  simp at h1 ⊢
  omega
theorem movR_le {m : Mv} (h : I64 m.fr ∧ I64 m.to ∧ I64 m.g) : (movR m).length ≤ 80 := by
  have h1 := numsT_le [m.fr, m.to, m.g] (fun x hx => by simp at hx; rcases hx with rfl | rfl | rfl; exact h.1; exact h.2.1; exact h.2.2)
  unfold movR
  rw [rowT_len]
  simp at h1 ⊢
  omega
theorem batsR_le : ∀ (l : List Int), (∀ x ∈ l, I64 x) → (batsR l).length ≤ 40 * l.length
  | [], _ => by simp [batsR]
  | x :: r, h => by
    have h1 := batsR_le r (fun y hy => h y (List.mem_cons_of_mem _ hy))
    have h2 := batR_le (h x List.mem_cons_self)
    have h4 : batsR (x :: r) = batR x ++ batsR r := by simp [batsR]
    rw [h4, List.length_append, List.length_cons]
    omega
theorem movsR_le : ∀ (l : List Mv), (∀ x ∈ l, I64 x.fr ∧ I64 x.to ∧ I64 x.g) → (movsR l).length ≤ 80 * l.length
  | [], _ => by simp [movsR]
  | x :: r, h => by
    have h1 := movsR_le r (fun y hy => h y (List.mem_cons_of_mem _ hy))
    have h2 := movR_le (h x List.mem_cons_self)
    have h4 : movsR (x :: r) = movR x ++ movsR r := by simp [movsR]
    rw [h4, List.length_append, List.length_cons]
    omega

set_option maxRecDepth 100000 in
set_option maxHeartbeats 1000000 in
theorem trow_any (wd : List UInt8) (b n c : Nat) (A : Option Addr) (l : List Int) (w : World) (hl : Sl encI 1 w b A n l) (hi : ∀ x ∈ l, I64 x) (hp : Pow w) (hn : n ≤ 1000000) (hz : (rowT wd l).length ≤ 1000000) :
    Calls Tryz.prog 30 #[.string ⟨wd.toArray⟩, .slice A n c] w fun e w' => e = .returned (.string ⟨(rowT wd l).toArray⟩) ∧ Below w.heap.size w w' := by
  have HA := Lib.hid hl.len
  have HL := Lib.hid hl
  have HI := Lib.hid hi
  have HP := Lib.hid hp
  rw [rowT_len] at hz
  clear hl hi hp
  go_enter Tryz.func30, Tryz.ntmps30
  go_wp2_with fail
  go_loopw [0, 9] (fun s i wr => ∃ k : Nat, k ≤ n ∧ i = .int .i64 k ∧ s = .string ⟨(wd ++ numsT (l.take k)).toArray⟩ ∧ Below w.heap.size w wr) (fun _ i _ => n - (intOf i).toNat)
  case atStart => exact ⟨0, by omega, rfl, by simp [numsT], Below.refl _ _⟩
  case round =>
    obtain ⟨k, hk, rfl, rfl, hB⟩ := hrel
    have HB := Lib.hid hB
    have hzr := hB.size
    clear hB
    have htk := numsT_take l k
    by_cases hlt : k < n
    · have hk1 : k < l.length := by have := HA.out; omega
      obtain ⟨o, rfl, hbz, h0⟩ := (HL.out.old HB.out).atI hk1
      have HS := Lib.hid (numsT_snoc l k hk1)
      have htk1 := numsT_take l (k + 1)
      rw [HS.out, List.length_append, List.length_cons] at htk1
      have HX := Lib.hid (HI.out _ (List.getElem_mem hk1))
      generalize l[k] = x at h0 HX HS htk1
      have ha1 : ((wd ++ numsT (l.take k)).length : Int) ≤ 8388608 := by rw [List.length_append]; omega
      have ha2 : (([32] : List UInt8).length : Int) ≤ 8388608 := by decide
      have ha3 : ((Lib.itoa x).length : Int) ≤ 8388608 := by omega
      have ha4 : (([32] ++ Lib.itoa x : List UInt8).length : Int) ≤ 8388608 := by rw [List.length_append]; simp; omega
      go_wp2_with fail
      refine (itoa_any x HX.out _ (HP.out.old HB.out)).mono ?_
      rintro e w1 ⟨rfl, hB1⟩
      have HB1 := Lib.hid (Below.step hB1 HB.out (Nat.le_refl _))
      clear hB1
      go_wp2_with fail
      go_roundw
      case rel => exact ⟨k + 1, by omega, by go_num, by rw [HS.out, ByteArray.mk_append_mk [32], ByteArray.mk_append_mk]; simp, HB1.out⟩
      case measure => simp [intOf]; omega
    · have hkn : k = n := by omega
      have hkl : l.take k = l := List.take_of_length_le (by have := HA.out; omega)
      rw [hkl]
      have ha1 : ((wd ++ numsT l).length : Int) ≤ 8388608 := by rw [List.length_append]; omega
      have ha2 : (([10] : List UInt8).length : Int) ≤ 8388608 := by decide
      go_wp2_with fail
      go_ret
      exact ⟨rfl, HB.out⟩
set_option maxRecDepth 100000 in
set_option maxHeartbeats 1000000 in
theorem qrow_any (wd : List UInt8) (b n c : Nat) (A : Option Addr) (l : List Int) (w : World) (hl : Sl encI 1 w b A n l) (hi : ∀ x ∈ l, I64 x) (hp : Pow w) (hn : n ≤ 1000000) (hz : (rowT wd l).length ≤ 1000000) :
    Calls Tryz.prog 33 #[.string ⟨wd.toArray⟩, .slice A n c] w fun e w' => e = .returned (.string ⟨(rowT wd l).toArray⟩) ∧ Below w.heap.size w w' := by
  have HA := Lib.hid hl.len
  have HL := Lib.hid hl
  have HI := Lib.hid hi
  have HP := Lib.hid hp
  rw [rowT_len] at hz
  clear hl hi hp
  go_enter Tryz.func33, Tryz.ntmps33
  go_wp2_with fail
  go_loopw [0, 5] (fun s i wr => ∃ k : Nat, k ≤ n ∧ i = .int .i64 k ∧ s = .string ⟨(wd ++ numsT (l.take k)).toArray⟩ ∧ Below w.heap.size w wr) (fun _ i _ => n - (intOf i).toNat)
  case atStart => exact ⟨0, by omega, rfl, by simp [numsT], Below.refl _ _⟩
  case round =>
    obtain ⟨k, hk, rfl, rfl, hB⟩ := hrel
    have HB := Lib.hid hB
    have hzr := hB.size
    clear hB
    have htk := numsT_take l k
    by_cases hlt : k < n
    · have hk1 : k < l.length := by have := HA.out; omega
      obtain ⟨o, rfl, hbz, h0⟩ := (HL.out.old HB.out).atI hk1
      have HS := Lib.hid (numsT_snoc l k hk1)
      have htk1 := numsT_take l (k + 1)
      rw [HS.out, List.length_append, List.length_cons] at htk1
      have HX := Lib.hid (HI.out _ (List.getElem_mem hk1))
      generalize l[k] = x at h0 HX HS htk1
      have ha1 : ((wd ++ numsT (l.take k)).length : Int) ≤ 8388608 := by rw [List.length_append]; omega
      have ha2 : (([32] : List UInt8).length : Int) ≤ 8388608 := by decide
      have ha3 : ((Lib.itoa x).length : Int) ≤ 8388608 := by omega
      have ha4 : ((wd ++ numsT (l.take k) ++ [32] : List UInt8).length : Int) ≤ 8388608 := by simp only [List.length_append, List.length_singleton]; omega
      go_wp2_with fail
      refine (itoa_any x HX.out _ (HP.out.old HB.out)).mono ?_
      rintro e w1 ⟨rfl, hB1⟩
      have HB1 := Lib.hid (Below.step hB1 HB.out (Nat.le_refl _))
      clear hB1
      go_wp2_with fail
      go_roundw
      case rel => exact ⟨k + 1, by omega, by go_num, by rw [HS.out, ByteArray.mk_append_mk _ [32], ByteArray.mk_append_mk]; simp, HB1.out⟩
      case measure => simp [intOf]; omega
    · have hkn : k = n := by omega
      have hkl : l.take k = l := List.take_of_length_le (by have := HA.out; omega)
      rw [hkl]
      have ha1 : ((wd ++ numsT l).length : Int) ≤ 8388608 := by rw [List.length_append]; omega
      have ha2 : (([10] : List UInt8).length : Int) ≤ 8388608 := by decide
      go_wp2_with fail
      go_ret
      exact ⟨rfl, HB.out⟩

end Go.Proofs.YtkphgdkjjklajaaGreatDoor
