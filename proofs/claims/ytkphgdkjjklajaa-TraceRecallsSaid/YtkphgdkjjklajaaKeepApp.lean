/-
  An append of one number to a row of the call's own: what the row held before can still be read where it lay.
-/
import Derived.Test.YtkphgdkjjklajaaApp
set_option linter.unusedVariables false
set_option linter.unusedSimpArgs false
namespace Go.Proofs.Ytkphgdkjjklajaa
open Go.RowKit

theorem own_oneI (W : World) (x : Int) : (W.alloc (.cells #[.int .i64 x] 3)).ownsRow W.heap.size 3 1 (.slice (some ⟨W.heap.size, 0, none⟩) 1 1) 1 ([x].flatMap encI) :=
  ⟨rfl, .inr ⟨W.heap.size, 1, #[.int .i64 x], rfl, Nat.le_refl _, Blk.new W _ _, Nat.le_refl _, by unfold maxLen; omega, rfl, rfl⟩⟩
theorem run_pushI (w : World) (ty : TypeId) (base A n c : Nat) (q : List Int) (hown : w.ownsRow base 3 1 (.slice (some ⟨A, 0, none⟩) n c) n (q.flatMap encI)) (b : Nat) (y : Int)
    (hc : w.cell? ⟨b, 0, none⟩ = some (.int .i64 y)) (hn : n ≤ 1000000) (hbase : base ≤ w.heap.size) :
    ∃ A' c' w', (Builtin.append_ #[22, 22] ty #[.slice (some ⟨A, 0, none⟩) n c, .slice (some ⟨b, 0, none⟩) 1 1]).run Try.prog w = .ok (.slice A' (n + 1) c') w' ∧ w'.ownsRow base 3 1 (.slice A' (n + 1) c') (n + 1) ((q ++ [y]).flatMap encI) ∧
      w.grownBy w' (some A) ∧ (A' = some ⟨A, 0, none⟩ ∨ A' = some ⟨w.heap.size, 0, none⟩) ∧ ∀ (j : Nat) (u : Value), (q.flatMap encI)[j]? = some u → w'.cell? ⟨A, j, none⟩ = some u := by
  obtain ⟨i0, hi, iz0, iz1, iz2⟩ := info_parts info_int
  have hnews : ∀ (j : Nat) (u : Value), ([Value.int .i64 y] : List Value)[j]? = some u → w.cell? ((⟨b, 0, none⟩ : Addr).add j) = some u := fun j u hu => by
    cases j with
    | zero => simp only [List.getElem?_cons_zero, Option.some.injEq] at hu; subst hu; exact hc
    | succ j => simp at hu
  have hone : ∀ u ∈ ([Value.int .i64 y] : List Value), u.oneCell' = true := fun u hu => by rw [List.mem_singleton.1 hu]; rfl
  have hadd : ∀ g j : Nat, (⟨g, 0, none⟩ : Addr).add j = ⟨g, j, none⟩ := fun g j => by unfold Addr.add; split <;> simp_all
  have hx := hown.cells (g := A) rfl
  have hA := (hown.lt A rfl).2
  obtain ⟨v', w', hr, h2, h3, _, h5⟩ := run_append_own_at (P := Try.prog) w base 22 ty 3 i0 _ 1 8 Try.underlying22 hi iz0 iz1 iz2 rfl (by omega) _ n _ hown ⟨b, 0, none⟩ 1 1 [.int .i64 y] rfl hnews hone (by unfold maxLen; omega) (by omega) hbase
  have hfl : (q ++ [y]).flatMap encI = q.flatMap encI ++ [.int .i64 y] := by rw [List.flatMap_append]; rfl
  rcases hown.2 with ⟨hv, _⟩ | ⟨g, cap, cur, hv, hbg, hg, hnc, hcm, hcs, htake⟩
  · cases hv
  · injection hv with e1 e2 e3
    injection e1 with e1
    injection e1 with e1 _
    subst e1
    subst e3
    by_cases hroom : n + 1 ≤ c
    · have hr2 := run_append_room (P := Try.prog) w 22 ty 3 i0 Try.underlying22 hi A n c cur hg ⟨b, 0, none⟩ 1 1 [.int .i64 y] (by rw [iz1]; rfl) hnews hone hroom (by rw [iz1, hcs]; simp; omega)
      rw [hr2] at hr
      injection hr with hv' hw'
      subst hv'
      refine ⟨_, _, w', by rw [hr2, hw'], by rw [hfl]; exact h2, h3, .inl rfl, fun j u hu => ?_⟩
      have h6 := h2.cells (g := A) rfl j u (by rw [List.getElem?_append_left (List.getElem?_eq_some_iff.1 hu).1]; exact hu)
      rw [hadd] at h6; exact h6
    · have hr2 := run_append_grow (P := Try.prog) w 22 ty 3 i0 _ Try.underlying22 hi iz0 ⟨A, 0, none⟩ n c (q.flatMap encI) (by rw [iz1]; exact hown.1) hx ⟨b, 0, none⟩ 1 1 [.int .i64 y] (by rw [iz1]; rfl) hnews (by omega) (by omega) (by rw [iz2]; exact growslice_fits (by omega) (by omega))
      rw [hr2] at hr
      injection hr with hv' hw'
      subst hv'
      refine ⟨_, _, w', by rw [hr2, hw'], by rw [hfl]; exact h2, h3, .inr rfl, fun j u hu => ?_⟩
      have h6 := hx j u hu
      rw [hadd] at h6
      rw [← hw', World.cell?_of_block (w := w) (a := ⟨A, j, none⟩) (heap_alloc_old w.drew _ hA)]
      exact h6
theorem wp_pushI {o : Oper} {a : Act} {w : World} {K : Act → World → Prop} {Q : Exit → Act → World → Prop} (s x : Operand) (ho : o.op = .call { callee := .builtin .append, args := #[s, x], argTypes := #[22, 22] })
    (base A n c : Nat) (q : List Int) (hs : a.eval s = .slice (some ⟨A, 0, none⟩) n c) (hown : w.ownsRow base 3 1 (.slice (some ⟨A, 0, none⟩) n c) n (q.flatMap encI)) (b : Nat) (y : Int) (hx : a.eval x = .slice (some ⟨b, 0, none⟩) 1 1)
    (hc : w.cell? ⟨b, 0, none⟩ = some (.int .i64 y)) (hn : n ≤ 1000000) (hbase : base ≤ w.heap.size)
    (h : ∀ A' c' w', w'.ownsRow base 3 1 (.slice A' (n + 1) c') (n + 1) ((q ++ [y]).flatMap encI) → w.grownBy w' (some A) → (A' = some ⟨A, 0, none⟩ ∨ A' = some ⟨w.heap.size, 0, none⟩) → (∀ (j : Nat) (u : Value), (q.flatMap encI)[j]? = some u → w'.cell? ⟨A, j, none⟩ = some u) → K (a.put o.dst (.slice A' (n + 1) c')) w') : o.wp Try.prog a w K Q := by
  obtain ⟨A', c', w', hr, h2, h3, h4, h5⟩ := run_pushI w o.type base A n c q hown b y hc hn hbase
  unfold Oper.wp execOp
  simp only [ho, resolve, invoke, builtin, Sem.run_bind, Sem.run_pure, Result.andThen_ok, List.map_toArray, List.map_cons, List.map_nil, hs, hx, hr]
  exact h A' c' w' h2 h3 h4 h5
end Go.Proofs.Ytkphgdkjjklajaa
