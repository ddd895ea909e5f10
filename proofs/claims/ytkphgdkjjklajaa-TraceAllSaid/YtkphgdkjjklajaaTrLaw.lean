/-
  What the laws of nets share: how things stand behind the making of a net, and what the program's functions answer of it.
-/
import Derived.Test.YtkphgdkjjklajaaTrNetOf
import Derived.Test.YtkphgdkjjklajaaDie2
import Derived.Test.YtkphgdkjjklajaaNums
set_option linter.unusedVariables false
set_option linter.unusedSimpArgs false
namespace Go.Proofs.Ytkphgdkjjklajaa
open Go.RowKit Go.Shelf Go.Sort

/-- a net that was made, and what has been laid since -/
structure LawSt (w W : World) (d Bn b1 b2 : Nat) (Ab Am : Option Addr) (nb cb nm cm : Nat) (bs : List Int) (ms : List Mv) : Prop where
  low : Below w.heap.size w W
  blk : Blk W Bn 25 #[.slice Ab nb cb, .slice Am nm cm]
  net : NetM W b1 b2 Ab Am nb cb nm cm bs ms
  ni : NetIn bs ms
  die : IsDie W d
  ne : b1 ≠ d ∧ b2 ≠ d ∧ Bn ≠ d ∧ w.heap.size ≤ d
section
variable {w W W' : World} {d Bn b1 b2 nb cb nm cm : Nat} {Ab Am : Option Addr} {bs : List Int} {ms : List Mv}
theorem LawSt.below (h : LawSt w W d Bn b1 b2 Ab Am nb cb nm cm bs ms) (hb : Below W.heap.size W W') : LawSt w W' d Bn b1 b2 Ab Am nb cb nm cm bs ms :=
  ⟨h.low.trans (hb.mono h.low.size), h.blk.below hb h.blk.lt, h.net.old hb, h.ni, h.die.keep (hb.block d h.die.lt), h.ne⟩
theorem LawSt.dieTo (h : LawSt w W d Bn b1 b2 Ab Am nb cb nm cm bs ms) (hd1 : IsDie W' d) (hg : W.grownBy W' (some d)) : LawSt w W' d Bn b1 b2 Ab Am nb cb nm cm bs ms :=
  ⟨h.low.grown hg h.low.size (fun j e => by cases e; exact h.ne.2.2.2), h.blk.grown hg (fun e => h.ne.2.2.1 (by injection e)), ⟨h.net.b.grown hg (fun _ e => h.ne.1 (by injection e)), h.net.m.grown hg (fun _ e => h.ne.2.1 (by injection e)), h.net.cb, h.net.cm⟩, h.ni, hd1, h.ne⟩
theorem LawSt.alloc (h : LawSt w W d Bn b1 b2 Ab Am nb cb nm cm bs ms) (o : Obj) : LawSt w (W.alloc o) d Bn b1 b2 Ab Am nb cb nm cm bs ms := h.below ((Below.refl _ W).alloc (Nat.le_refl _) o)
theorem LawSt.drew (h : LawSt w W d Bn b1 b2 Ab Am nb cb nm cm bs ms) : LawSt w W.drew d Bn b1 b2 Ab Am nb cb nm cm bs ms := h.below (Below.refl _ W).drew
theorem LawSt.grownOn (h : LawSt w W d Bn b1 b2 Ab Am nb cb nm cm bs ms) {W0 : World} (h0 : LawSt w W0 d Bn b1 b2 Ab Am nb cb nm cm bs ms) {row : Option Nat} (hg : W.grownBy W' row) (hr : ∀ r, row = some r → W0.heap.size ≤ r) : LawSt w W' d Bn b1 b2 Ab Am nb cb nm cm bs ms :=
  ⟨h.low.grown hg h.low.size (fun j e => Nat.le_trans h0.low.size (hr j e)), h.blk.grown hg (fun e => by have := h0.blk.lt; have := hr _ e.symm; omega), ⟨h.net.b.grown hg (fun hn e => by have := h0.net.b.lt hn; have := hr _ e.symm; omega), h.net.m.grown hg (fun hn e => by have := h0.net.m.lt hn; have := hr _ e.symm; omega), h.net.cb, h.net.cm⟩, h.ni,
    h.die.keep (hg.block d h.die.lt (fun e => by have := h0.die.lt; have := hr _ e.symm; omega)), h.ne⟩
theorem LawSt.nb_eq (h : LawSt w W d Bn b1 b2 Ab Am nb cb nm cm bs ms) : nb = bs.length := h.net.b.len
theorem LawSt.nm_eq (h : LawSt w W d Bn b1 b2 Ab Am nb cb nm cm bs ms) : nm = ms.length := h.net.m.len
theorem LawSt.nb8 (h : LawSt w W d Bn b1 b2 Ab Am nb cb nm cm bs ms) : nb ≤ 8 := by have := h.net.b.len; have := h.ni.n1; omega
theorem LawSt.nm12 (h : LawSt w W d Bn b1 b2 Ab Am nb cb nm cm bs ms) : nm ≤ 12 := by have := h.net.m.len; have := h.ni.m1; omega
theorem LawSt.reach (h : LawSt w W d Bn b1 b2 Ab Am nb cb nm cm bs ms) {b3 no co : Nat} {Ao : Option Addr} {l : List Int} (hO : Sl encI 1 W b3 Ao no l) (hl : OrgIn bs.length l) :
    Calls Try.prog 26 #[netV Ab Am nb cb nm cm, .slice Ao no co] W fun e W' => ∃ A c bR, e = .returned (.tuple #[.slice A nb c, .int .i64 0]) ∧ Sl encR 2 W' bR A nb (reachT bs ms l) ∧ Below W.heap.size W W' :=
  (Reach_ok b1 b2 b3 Ab Am Ao nb cb nm cm no co bs ms l W h.net hO (chkO_zero (chkNet_zero h.ni) hl)).mono fun e W' ⟨A, c, he, ho, hb⟩ => by
    obtain ⟨bR, _, hs⟩ := Sl.of_own (enc := encR) encR_len (by unfold reachT; rw [List.length_map, rg_length]; exact h.net.b.len) ho
    exact ⟨A, c, bR, he, hs, hb⟩
theorem LawSt.recall (h : LawSt w W d Bn b1 b2 Ab Am nb cb nm cm bs ms) {b3 no co : Nat} {Ao : Option Addr} {l : List Int} (hO : Sl encI 1 W b3 Ao no l) (hl : OrgIn bs.length l) :
    Calls Try.prog 27 #[netV Ab Am nb cb nm cm, .slice Ao no co] W fun e W' => ∃ A c bR, e = .returned (.tuple #[.slice A (recallT bs ms l).length c, .int .i64 0]) ∧ Sl encI 1 W' bR A (recallT bs ms l).length (recallT bs ms l) ∧ Below W.heap.size W W' :=
  (Recall_ok b1 b2 b3 Ab Am Ao nb cb nm cm no co bs ms l W h.net hO (chkO_zero (chkNet_zero h.ni) hl)).mono fun e W' ⟨A, c, he, ho, hb⟩ => by
    obtain ⟨bR, _, hs⟩ := Sl.of_own (enc := encI) encI_len rfl (by rw [flatI]; exact ho)
    exact ⟨A, c, bR, he, hs, hb⟩
theorem LawSt.through (h : LawSt w W d Bn b1 b2 Ab Am nb cb nm cm bs ms) {b3 no co : Nat} {Ao : Option Addr} {l : List Int} (hO : Sl encI 1 W b3 Ao no l) (hl : OrgIn bs.length l) :
    Calls Try.prog 31 #[netV Ab Am nb cb nm cm, .slice Ao no co] W fun e W' => ∃ A c bR, e = .returned (.tuple #[.slice A nm c, .int .i64 0]) ∧ Sl encR 2 W' bR A nm (throughT bs ms l) ∧ Below W.heap.size W W' :=
  (Through_ok b1 b2 b3 Ab Am Ao nb cb nm cm no co bs ms l W h.net hO (chkO_zero (chkNet_zero h.ni) hl)).mono fun e W' ⟨A, c, he, ho, hb⟩ => by
    obtain ⟨bR, _, hs⟩ := Sl.of_own (enc := encR) encR_len (by unfold throughT; rw [thrT_len]; exact h.net.m.len) ho
    exact ⟨A, c, bR, he, hs, hb⟩
theorem LawSt.holds (h : LawSt w W d Bn b1 b2 Ab Am nb cb nm cm bs ms) :
    Calls Try.prog 36 #[netV Ab Am nb cb nm cm] W fun e W' => ∃ A c bR, e = .returned (.tuple #[.slice A nb c, .int .i64 0]) ∧ Sl encI 1 W' bR A nb (holdsT bs ms) ∧ Below W.heap.size W W' :=
  (Holds_ok b1 b2 Ab Am nb cb nm cm bs ms W h.net (chkNet_zero h.ni)).mono fun e W' ⟨g, c, he, ho, hb⟩ => by
    obtain ⟨bR, _, hs⟩ := Sl.of_own (enc := encI) encI_len (by unfold holdsT; rw [List.length_map, rg_length]; exact h.net.b.len) ho
    exact ⟨_, c, bR, he, hs, hb⟩
end
theorem reach_len (bs : List Int) (ms : List Mv) (l : List Int) : (reachT bs ms l).length = bs.length := by unfold reachT; rw [List.length_map, rg_length]
theorem reach_get (bs : List Int) (ms : List Mv) (l : List Int) {k : Nat} (hk : k < bs.length) : (reachT bs ms l)[k]'(by rw [reach_len]; exact hk) = mayT bs l ms k := by simp [reachT, rg]
theorem holds_len (bs : List Int) (ms : List Mv) : (holdsT bs ms).length = bs.length := by unfold holdsT; rw [List.length_map, rg_length]
theorem holds_get (bs : List Int) (ms : List Mv) {k : Nat} (hk : k < bs.length) : (holdsT bs ms)[k]'(by rw [holds_len]; exact hk) = hasAt (bsF bs) ms k := by simp [holdsT, rg]
theorem through_len (bs : List Int) (ms : List Mv) (l : List Int) : (throughT bs ms l).length = ms.length := thrT_len ..
/-- bounds of what is known -/
theorem may_bd {bs : List Int} {ms : List Mv} (h : NetIn bs ms) (l : List Int) {k : Nat} (hk : k < bs.length) : 0 ≤ (mayT bs l ms k).lo ∧ (mayT bs l ms k).lo ≤ 8000000 ∧ 0 ≤ (mayT bs l ms k).hi ∧ (mayT bs l ms k).hi ≤ 8000000 := by
  have h1 := mostF_le_has h.pos h.ms (othersT bs.length l) (batch := (k : Int)) (by omega) (by omega)
  have h2 := mostF_nonneg h.pos h.ms (othersT bs.length l) (k : Int)
  have h3 := mostF_le_has h.pos h.ms l (batch := (k : Int)) (by omega) (by omega)
  have h4 := mostF_nonneg h.pos h.ms l (k : Int)
  have h5 := h.bd (k : Int)
  unfold mayT
  simp only
  omega
theorem thrT_get (bs : List Int) (l : List Int) : ∀ (pre ms : List Mv) {k : Nat} (hk : k < ms.length), (thrT bs l pre ms)[k]'(by rw [thrT_len]; exact hk) = takeT bs l (pre ++ ms.take k) ms[k]
  | pre, m :: ms, 0, _ => by simp [thrT]
  | pre, m :: ms, k + 1, hk => by
    have h := thrT_get bs l (pre ++ [m]) ms (k := k) (by simpa using hk)
    simp only [thrT, List.getElem_cons_succ, List.take_succ_cons]
    rw [h, List.append_assoc]
    rfl
theorem through_get (bs : List Int) (ms : List Mv) (l : List Int) {k : Nat} (hk : k < ms.length) : (throughT bs ms l)[k]'(by rw [through_len]; exact hk) = takeT bs l (ms.take k) ms[k] := by
  have := thrT_get bs l [] ms hk
  rwa [List.nil_append] at this
theorem NetIn.g_bd {bs : List Int} {ms : List Mv} (h : NetIn bs ms) {k : Nat} (hk : k < ms.length) : 1 ≤ ms[k].g ∧ ms[k].g ≤ 8000000 := by
  have h1 := h.at_ hk
  have h2 := h1.g1
  have h3 := (h.has_bd k ms[k].fr).2
  exact ⟨h1.g0, by omega⟩
theorem take_bd {bs : List Int} {ms : List Mv} (h : NetIn bs ms) (l : List Int) {k : Nat} (hk : k < ms.length) : 0 ≤ (takeT bs l (ms.take k) ms[k]).lo ∧ (takeT bs l (ms.take k) ms[k]).lo ≤ 8000000 ∧ 0 ≤ (takeT bs l (ms.take k) ms[k]).hi ∧ (takeT bs l (ms.take k) ms[k]).hi ≤ 8000000 := by
  obtain ⟨g0, g1⟩ := h.g_bd hk
  have h2 := mostF_nonneg h.pos (h.take k).ms (othersT bs.length l) ms[k].fr
  have h4 := mostF_nonneg h.pos (h.take k).ms l ms[k].fr
  unfold takeT
  simp only
  omega
end Go.Proofs.Ytkphgdkjjklajaa
