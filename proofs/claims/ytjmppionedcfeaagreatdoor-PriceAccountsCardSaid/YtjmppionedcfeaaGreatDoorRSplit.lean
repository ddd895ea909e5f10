/-
  The reference: the parts of a string.
-/
import Derived.Test.YtjmppionedcfeaaGreatDoorStrs
set_option linter.unusedVariables false
set_option linter.unusedSimpArgs false
namespace Go.Proofs.YtjmppionedcfeaaGreatDoor
open Go.RowKit

/-- how far a text is cut -/
def SpI (c : UInt8) (x : List UInt8) (i f : Nat) (out : List (List UInt8)) : Prop :=
  (i ≤ x.length ∧ f ≤ i ∧ splitT c x = out ++ splitT c (x.drop f) ∧ c ∉ (x.drop f).take (i - f)) ∨ (i = x.length + 1 ∧ splitT c x = out)
theorem part_bytes (s : ByteArray) (f i : Nat) : s.extract f i = ⟨((s.data.toList.drop f).take (i - f)).toArray⟩ := by
  rw [← bytes_back (s.extract f i)]
  congr 2
  rw [Lib.extract_data, List.take_drop]
/-- where a text is cut: what is cut off already, and the rest -/
theorem split_mid {c : UInt8} {s : List UInt8} {out : List (List UInt8)} {f i : Nat} (h : splitT c s = out ++ splitT c (s.drop f)) (hfi : f ≤ i) (hi : i < s.length) (hno : c ∉ (s.drop f).take (i - f)) (hc : s[i] = c) :
    splitT c s = (out ++ [(s.drop f).take (i - f)]) ++ splitT c (s.drop (i + 1)) := by
  have h1 : s.drop f = (s.drop f).take (i - f) ++ c :: s.drop (i + 1) := by
    have h2 : s.drop f = (s.drop f).take (i - f) ++ (s.drop f).drop (i - f) := (List.take_append_drop _ _).symm
    rw [List.drop_drop, show f + (i - f) = i by omega, List.drop_eq_getElem_cons hi, hc] at h2
    exact h2
  rw [h, (congrArg (splitT c) h1).trans (splitT_hit hno _), List.append_assoc]
  rfl
theorem split_end {c : UInt8} {s : List UInt8} {out : List (List UInt8)} {f : Nat} (h : splitT c s = out ++ splitT c (s.drop f)) (hno : c ∉ (s.drop f).take (s.length - f)) : splitT c s = out ++ [(s.drop f).take (s.length - f)] := by
  have h1 : (s.drop f).take (s.length - f) = s.drop f := List.take_of_length_le (by simp)
  rw [h1] at hno ⊢
  rw [h, splitT_none hno]
theorem no_next {c : UInt8} {s : List UInt8} {f i : Nat} (hfi : f ≤ i) (hi : i < s.length) (hno : c ∉ (s.drop f).take (i - f)) (hc : s[i] ≠ c) : c ∉ (s.drop f).take (i + 1 - f) := by
  rw [show i + 1 - f = (i - f) + 1 by omega, List.take_succ_eq_append_getElem (by rw [List.length_drop]; omega)]
  simp only [List.mem_append, List.mem_singleton, not_or]
  refine ⟨hno, ?_⟩
  rw [List.getElem_drop]
  intro e
  apply hc
  rw [e]
  congr 1
  omega

theorem row_snoc {W : World} {base : Nat} {e : TypeId} {A : Option Addr} {c : Nat} {out : List (List UInt8)} {x : List UInt8} (h : W.ownsRow base e 1 (.slice A (out.length + 1) c) (out.length + 1) (out.flatMap encT ++ [.string ⟨x.toArray⟩])) :
    W.ownsRow base e 1 (.slice A (out ++ [x]).length c) (out ++ [x]).length ((out ++ [x]).flatMap encT) := by
  rw [List.length_append, List.length_singleton, List.flatMap_append]
  simpa [encT] using h

set_option maxRecDepth 100000 in
set_option maxHeartbeats 2000000 in
theorem rsplit_any (c : UInt8) (s : ByteArray) (W : World) (hs : s.size ≤ 100000) :
    Calls Tryz.prog 38 #[.string s, .int .u8 c.toNat] W fun e W' => ∃ A' c' b', e = .returned (.slice A' (splitT c s.data.toList).length c') ∧ Sl encT 1 W' b' A' (splitT c s.data.toList).length (splitT c s.data.toList) ∧ Below W.heap.size W W' := by
  have hlen := bytes_len s
  obtain ⟨x, hx⟩ : ∃ x, x = s.data.toList := ⟨_, rfl⟩
  rw [← hx] at hlen ⊢
  have HXD := Lib.hid hx
  have HLN := Lib.hid hlen
  obtain ⟨i0, hi, iz0, iz1, iz2⟩ := info_parts info_string
  clear hx hlen
  go_enter Tryz.func38, Tryz.ntmps38
  go_wp2_with fail
  go_loopw [5, 6, 7] (fun v f i wr => ∃ (k g c' : Nat) (A' : Option Addr) (out : List (List UInt8)), k ≤ s.size + 1 ∧ i = .int .i64 k ∧ f = .int .i64 g ∧ v = .slice A' out.length c' ∧ out.length ≤ k ∧ SpI c x k g out ∧ wr.ownsRow W.heap.size 9 1 (.slice A' out.length c') out.length (out.flatMap encT) ∧ Below W.heap.size W wr) (fun _ _ i _ => s.size + 1 - (intOf i).toNat)
  case atStart => exact ⟨0, 0, 0, none, [], by omega, rfl, rfl, rfl, Nat.le_refl _, .inl ⟨Nat.zero_le _, Nat.le_refl _, by simp, by simp⟩, World.ownsRow_nil _ _ _ _, Below.refl _ _⟩
  case round =>
    obtain ⟨k, f, c', A', out, hk, rfl, rfl, rfl, hm, hsp, hown, hB⟩ := hrel
    have HB := Lib.hid hB
    have HOW := Lib.hid hown
    have hzr := hB.size
    clear hB hown
    have hll := HLN.out
    by_cases hks : k ≤ s.size
    · rcases hsp with ⟨_, hfk, hcut, hno⟩ | ⟨h9, _⟩
      · have HC := Lib.hid hcut
        have HNO := Lib.hid hno
        have HEX := Lib.hid (part_bytes s f k)
        have ik0 : (0 : Int) ≤ (k : Int) := by omega
        have ikf : (f : Int) ≤ (k : Int) := by omega
        have if0 : (0 : Int) ≤ (f : Int) := by omega
        have iks : (k : Int) ≤ (s.size : Int) := by omega
        clear hcut hno
        by_cases hlt : k < s.size
        · have hne : ((k : Int) == (s.size : Int)) = false := by rw [beq_eq_false_iff_ne]; omega
          have ilt : (k : Int) < (s.size : Int) := by omega
          have hkx : k < x.length := by omega
          have hxk : x[k] = s[k] := by have h9 := HXD.out; subst h9; exact bytes_at s k hlt hkx
          have HX := Lib.hid hxk
          clear hxk
          by_cases hc : s[k] = c
          · have q : ((s[k].toNat : Int) == (c.toNat : Int)) = true := by rw [hc]; exact beq_self_eq_true _
            have HN := Lib.hid (split_mid HC.out hfk hkx HNO.out (HX.out.trans hc))
            clear hc
            go_wp2_with (at_builtin; refine wpList_append_lies _ rfl _ _ 31 rfl W.heap.size 9 i0 _ 1 16 Tryz.underlying31 hi iz0 iz1 iz2 rfl (by omega) _ out.length _ (by rfl) (HOW.out.alloc _) ⟨wr.heap.size, 0, none⟩ 1 1 [.string (s.extract f k)] (by rfl) (by rfl) (World.news_of_block (heap_alloc_new wr _)) (by simp [Value.oneCell']) (by omega) (by unfold maxLen; omega) (by omega) (by rw [World.size_alloc]; omega) (wr.heap.size + 1) (by simp) ?_; intro g cap w3 hown3 hgrow hat hlt3)
            have HB3 := Lib.hid (below_own (HOW.out.alloc _) hgrow (HB.out.alloc hzr _) (Nat.le_refl _) (Nat.le_refl _))
            rw [HEX.out] at hown3
            have HO3 := Lib.hid (row_snoc hown3)
            clear hown3 hgrow hat hlt3
            go_roundw
            case rel => exact ⟨k + 1, k + 1, cap, _, out ++ [(x.drop f).take (k - f)], by omega, by go_num, by go_num, by rw [List.length_append, List.length_singleton], by rw [List.length_append, List.length_singleton]; omega, .inl ⟨by omega, by omega, HN.out, by simp⟩, by rw [HXD.out]; exact HO3.out, HB3.out⟩
            case measure => simp [intOf]; omega
          · have q : ((s[k].toNat : Int) == (c.toNat : Int)) = false := by
              rw [beq_eq_false_iff_ne]
              intro e
              exact hc (UInt8.toNat_inj.1 (by omega))
            have hor : (((k : Int) == (s.size : Int)) || ((s[k].toNat : Int) == (c.toNat : Int))) = false := by rw [hne, q]; rfl
            have HN := Lib.hid (no_next hfk hkx HNO.out (fun e => hc (HX.out.symm.trans e)))
            go_wp2_with fail
            go_roundw
            case rel => exact ⟨k + 1, f, c', A', out, by omega, by go_num, rfl, rfl, by omega, .inl ⟨by omega, by omega, HC.out, HN.out⟩, HOW.out, HB.out⟩
            case measure => simp [intOf]; omega
        · obtain rfl : k = s.size := by omega
          have HN := Lib.hid (split_end HC.out (by rw [HLN.out]; exact HNO.out))
          go_wp2_with (at_builtin; refine wpList_append_lies _ rfl _ _ 31 rfl W.heap.size 9 i0 _ 1 16 Tryz.underlying31 hi iz0 iz1 iz2 rfl (by omega) _ out.length _ (by rfl) (HOW.out.alloc _) ⟨wr.heap.size, 0, none⟩ 1 1 [.string (s.extract f s.size)] (by rfl) (by rfl) (World.news_of_block (heap_alloc_new wr _)) (by simp [Value.oneCell']) (by omega) (by unfold maxLen; omega) (by omega) (by rw [World.size_alloc]; omega) (wr.heap.size + 1) (by simp) ?_; intro g cap w3 hown3 hgrow hat hlt3)
          have HB3 := Lib.hid (below_own (HOW.out.alloc _) hgrow (HB.out.alloc hzr _) (Nat.le_refl _) (Nat.le_refl _))
          rw [HEX.out] at hown3
          have HO3 := Lib.hid (row_snoc hown3)
          clear hown3 hgrow hat hlt3
          go_roundw
          case rel => exact ⟨s.size + 1, s.size + 1, cap, _, out ++ [(x.drop f).take (s.size - f)], by omega, by go_num, by go_num, by rw [List.length_append, List.length_singleton], by rw [List.length_append, List.length_singleton]; omega, .inr ⟨by omega, by rw [← HLN.out]; exact HN.out⟩, by rw [HXD.out]; exact HO3.out, HB3.out⟩
          case measure => simp [intOf]
      · omega
    · rcases hsp with ⟨h9, _⟩ | ⟨_, hdone⟩
      · omega
      · have HD := Lib.hid hdone
        have HK := Lib.hid (show k = s.size + 1 by omega)
        obtain ⟨b', _, hS⟩ := Sl.of_own encT_len rfl HOW.out
        have HSS := Lib.hid hS
        clear hdone hS
        go_wp2_with fail
        go_ret
        exact ⟨A', c', b', by rw [HD.out]; rfl, by rw [HD.out]; exact HSS.out, HB.out⟩
end Go.Proofs.YtjmppionedcfeaaGreatDoor
