/-
  An append of one span to a row of the call's own: what the row held before can still be read where it lay.
-/
import Derived.Test.YtmoolcpogilgkaaApp
set_option linter.unusedVariables false
set_option linter.unusedSimpArgs false
namespace Go.Proofs.Ytmoolcpogilgkaa
open Go.RowKit

theorem info_spanK : (Try.prog.info? 32).map (fun i => (i.zero, i.size, i.bytes)) = some (some (.agg #[.int .i64 0, .int .i64 0]), 2, 16) := by kernel_rfl
theorem run_pushR (w : World) (ty : TypeId) (base A n c : Nat) (q : List Span) (hown : w.ownsRow base 32 2 (.slice (some ⟨A, 0, none⟩) n c) n (q.flatMap encR)) (b : Nat) (y : Span)
    (hc : w.cell? ⟨b, 0, none⟩ = some (.int .i64 y.lo)) (hc2 : w.cell? ⟨b, 1, none⟩ = some (.int .i64 y.hi)) (hn : n ≤ 1000000) (hbase : base ≤ w.heap.size) :
    ∃ A' c' w', (Builtin.append_ #[80, 80] ty #[.slice (some ⟨A, 0, none⟩) n c, .slice (some ⟨b, 0, none⟩) 1 1]).run Try.prog w = .ok (.slice A' (n + 1) c') w' ∧ w'.ownsRow base 32 2 (.slice A' (n + 1) c') (n + 1) ((q ++ [y]).flatMap encR) ∧
      w.grownBy w' (some A) ∧ (A' = some ⟨A, 0, none⟩ ∨ A' = some ⟨w.heap.size, 0, none⟩) ∧ ∀ (j : Nat) (u : Value), (q.flatMap encR)[j]? = some u → w'.cell? ⟨A, j, none⟩ = some u := by
  obtain ⟨i0, hi, iz0, iz1, iz2⟩ := info_parts info_spanK
  have hadd : ∀ g j : Nat, (⟨g, 0, none⟩ : Addr).add j = ⟨g, j, none⟩ := fun g j => by unfold Addr.add; split <;> simp_all
  have hnews : ∀ (j : Nat) (u : Value), (encR y)[j]? = some u → w.cell? ((⟨b, 0, none⟩ : Addr).add j) = some u := fun j u hu => by
    rw [hadd]
    match j with
    | 0 => simp only [encR, List.getElem?_cons_zero, Option.some.injEq] at hu; subst hu; exact hc
    | 1 => simp only [encR, List.getElem?_cons_succ, List.getElem?_cons_zero, Option.some.injEq] at hu; subst hu; exact hc2
    | j + 2 => simp [encR] at hu
  have hone : ∀ u ∈ encR y, u.oneCell' = true := oneR y
  have hx := hown.cells (g := A) rfl
  have hA := (hown.lt A rfl).2
  obtain ⟨v', w', hr, h2, h3, _, h5⟩ := run_append_own_at (P := Try.prog) w base 80 ty 32 i0 _ 2 16 Try.underlying80 hi iz0 iz1 iz2 rfl (by omega) _ n _ hown ⟨b, 0, none⟩ 1 1 (encR y) rfl hnews hone (by unfold maxLen; omega) (by omega) hbase
  have hfl : (q ++ [y]).flatMap encR = q.flatMap encR ++ encR y := by rw [List.flatMap_append]; simp
  rcases hown.2 with ⟨hv, _⟩ | ⟨g, cap, cur, hv, hbg, hg, hnc, hcm, hcs, htake⟩
  · cases hv
  · injection hv with e1 e2 e3
    injection e1 with e1
    injection e1 with e1 _
    subst e1
    subst e3
    by_cases hroom : n + 1 ≤ c
    · have hr2 := run_append_room (P := Try.prog) w 80 ty 32 i0 Try.underlying80 hi A n c cur hg ⟨b, 0, none⟩ 1 1 (encR y) (by rw [iz1]; rfl) hnews hone hroom (by rw [iz1, hcs]; have := encR_len y; rw [this]; omega)
      rw [hr2] at hr
      injection hr with hv' hw'
      subst hv'
      refine ⟨_, _, w', by rw [hr2, hw'], by rw [hfl]; exact h2, h3, .inl rfl, fun j u hu => ?_⟩
      have h6 := h2.cells (g := A) rfl j u (by rw [List.getElem?_append_left (List.getElem?_eq_some_iff.1 hu).1]; exact hu)
      rw [hadd] at h6; exact h6
    · have hr2 := run_append_grow (P := Try.prog) w 80 ty 32 i0 _ Try.underlying80 hi iz0 ⟨A, 0, none⟩ n c (q.flatMap encR) (by rw [iz1]; exact hown.1) hx ⟨b, 0, none⟩ 1 1 (encR y) (by rw [iz1]; rfl) hnews (by omega) (by omega) (by rw [iz2]; exact growslice_fits (by omega) (by omega))
      rw [hr2] at hr
      injection hr with hv' hw'
      subst hv'
      refine ⟨_, _, w', by rw [hr2, hw'], by rw [hfl]; exact h2, h3, .inr rfl, fun j u hu => ?_⟩
      have h6 := hx j u hu
      rw [hadd] at h6
      rw [← hw', World.cell?_of_block (w := w) (a := ⟨A, j, none⟩) (heap_alloc_old w.drew _ hA)]
      exact h6
theorem wp_pushR {o : Oper} {a : Act} {w : World} {K : Act → World → Prop} {Q : Exit → Act → World → Prop} (s x : Operand) (ho : o.op = .call { callee := .builtin .append, args := #[s, x], argTypes := #[80, 80] })
    (base A n c : Nat) (q : List Span) (hs : a.eval s = .slice (some ⟨A, 0, none⟩) n c) (hown : w.ownsRow base 32 2 (.slice (some ⟨A, 0, none⟩) n c) n (q.flatMap encR)) (b : Nat) (y : Span) (hx : a.eval x = .slice (some ⟨b, 0, none⟩) 1 1)
    (hc : w.cell? ⟨b, 0, none⟩ = some (.int .i64 y.lo)) (hc2 : w.cell? ⟨b, 1, none⟩ = some (.int .i64 y.hi)) (hn : n ≤ 1000000) (hbase : base ≤ w.heap.size)
    (h : ∀ A' c' w', w'.ownsRow base 32 2 (.slice A' (n + 1) c') (n + 1) ((q ++ [y]).flatMap encR) → w.grownBy w' (some A) → (A' = some ⟨A, 0, none⟩ ∨ A' = some ⟨w.heap.size, 0, none⟩) → (∀ (j : Nat) (u : Value), (q.flatMap encR)[j]? = some u → w'.cell? ⟨A, j, none⟩ = some u) → K (a.put o.dst (.slice A' (n + 1) c')) w') : o.wp Try.prog a w K Q := by
  obtain ⟨A', c', w', hr, h2, h3, h4, h5⟩ := run_pushR w o.type base A n c q hown b y hc hc2 hn hbase
  unfold Oper.wp execOp
  simp only [ho, resolve, invoke, builtin, Sem.run_bind, Sem.run_pure, Result.andThen_ok, List.map_toArray, List.map_cons, List.map_nil, hs, hx, hr]
  exact h A' c' w' h2 h3 h4 h5
end Go.Proofs.Ytmoolcpogilgkaa
