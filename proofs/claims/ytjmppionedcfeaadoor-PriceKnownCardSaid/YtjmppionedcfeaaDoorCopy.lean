/-
  The builtin copy between slices of whatever elements; make of such a slice.
-/
import Derived.Test.YtjmppionedcfeaaDoorApp
import Derived.Laws.CopyOwn
import Derived.Laws.CopyRow
set_option linter.unusedVariables false
set_option linter.unusedSimpArgs false
namespace Go.Proofs.YtjmppionedcfeaaDoor
open Go.RowKit

section
variable {P : Program} {α : Type} {enc : α → List Value} {sz : Nat}
theorem Sl.flat (hm : ∀ x, (enc x).length = sz) (hsz : 0 < sz) {w : World} {b o n : Nat} {l : List α} (h : Sl enc sz w b (some ⟨b, o, none⟩) n l) : ∀ j u, (l.flatMap enc)[j]? = some u → w.cell? ((⟨b, o, none⟩ : Addr).add j) = some u := by
  intro j u hu
  have hj : j < l.length * sz := by
    have := (List.getElem?_eq_some_iff.1 hu).1
    rw [flat_len hm] at this
    exact this
  have hk : j / sz < l.length := Nat.div_lt_of_lt_mul (by rw [Nat.mul_comm]; exact hj)
  obtain ⟨o', ho, _, hc⟩ := h.2 (by rw [h.1]; exact Nat.lt_of_le_of_lt (Nat.zero_le _) hk)
  obtain rfl : o = o' := by injection ho with ho; injection ho
  have hjj : j / sz * sz + j % sz = j := by rw [Nat.mul_comm]; exact Nat.div_add_mod j sz
  have hmod : j % sz < sz := Nat.mod_lt _ hsz
  have hu2 : (enc l[j / sz])[j % sz]? = some u := by
    have h3 : (enc l[j / sz])[j % sz]? = some ((enc l[j / sz])[j % sz]'(by rw [hm]; exact hmod)) := List.getElem?_eq_getElem _
    have h4 := flat_at hm l (j / sz) hk (j % sz) _ h3
    rw [hjj, hu] at h4
    rw [h3, h4]
  have h5 := hc (j / sz) hk (j % sz) u hu2
  rw [Nat.add_assoc, hjj] at h5
  unfold Addr.add
  split
  · rename_i h0
    rw [h0] at h5
    exact h5
  · exact h5
theorem run_copy_sl (w : World) (T ty elem : TypeId) (i : TypeInfo) (g n d c : Nat) (t : TypeId) (cur : Array Value) (b : Nat) (A : Option Addr) (l : List α) (ht : P.underlying T = some (.slice elem)) (hi : P.info? elem = some i) (hs : i.size = sz)
    (hg : Blk w g t cur) (hcur : cur.size = n * sz) (hl : Sl enc sz w b A n l) (hm : ∀ x, (enc x).length = sz) (hsz : 0 < sz) (h1 : ∀ x, ∀ u ∈ enc x, u.oneCell' = true) :
    ∃ w', (Builtin.copy_ #[T, T] ty #[.slice (some ⟨g, 0, none⟩) n d, .slice A n c]).run P w = .ok (goInt n) w' ∧ Blk w' g t (l.flatMap enc).toArray ∧ w.grownBy w' (some g) := by
  have hlen := hl.len
  have hfl : (l.flatMap enc).length = n * sz := by rw [flat_len hm, hlen]
  have h1' : ∀ v ∈ l.flatMap enc, v.oneCell' = true := by
    intro v hv
    rw [List.mem_flatMap] at hv
    obtain ⟨x, _, hx⟩ := hv
    exact h1 x v hx
  have hst := run_storeCells_at P g 0 t (l.flatMap enc) 0 cur w hg (by rw [hfl, hcur]; omega) h1'
  have hrow : (cur.toList.take (0 + 0) ++ l.flatMap enc ++ cur.toList.drop (0 + 0 + (l.flatMap enc).length)).toArray = (l.flatMap enc).toArray := by
    rw [List.drop_eq_nil_of_le (by rw [hfl, Array.length_toList, hcur]; omega)]
    simp
  rw [hrow] at hst
  refine ⟨w.setRow g (l.flatMap enc).toArray, ?_, setRow_heap w g cur _ t _ hg, ⟨rfl, rfl, rfl, by simp [World.setRow], fun k _ hk => setRow_other w g k _ (fun e => hk (by rw [e]))⟩⟩
  by_cases h0 : n = 0
  · subst h0
    have hnil : l = [] := List.eq_nil_of_length_eq_zero hlen.symm
    subst hnil
    have hst' := hst
    simp only [List.flatMap_nil] at hst' ⊢
    cases A with
    | none => simp [Builtin.copy_, run_underlying ht, Builtin.lenOf, Builtin.firstCells, sizeOf, typeInfo, hi, hst']
    | some a =>
      have hld0 := run_loadCells_list (P := P) w a [] (by simp)
      simp only [List.length_nil] at hld0
      simp [Builtin.copy_, run_underlying ht, Builtin.lenOf, Builtin.firstCells, sizeOf, typeInfo, hi, hld0, hst']
  · obtain ⟨o, rfl, hbz, hc⟩ := hl.2 (by omega)
    have hld := run_loadCells_list (P := P) w ⟨b, o, none⟩ (l.flatMap enc) (hl.flat hm hsz)
    rw [hfl] at hld
    simp [Builtin.copy_, run_underlying ht, Builtin.lenOf, Builtin.firstCells, sizeOf, typeInfo, hi, hs, hld, hst]
theorem wpList_copy_sl {ops : Array Oper} {rest : List Oper} {o : Oper} {a : Act} {w : World} {Q : Exit → Act → World → Prop} (hgd : o.guard = none) (d s : Operand) (T : TypeId)
    (ho : o.op = .call { callee := .builtin .copy, args := #[d, s], argTypes := #[T, T] }) (elem : TypeId) (i : TypeInfo) (ht : P.underlying T = some (.slice elem)) (hi : P.info? elem = some i) (hs : i.size = sz)
    (g n dc c : Nat) (t : TypeId) (cur : Array Value) (b : Nat) (A : Option Addr) (l : List α) (hd : a.eval d = .slice (some ⟨g, 0, none⟩) n dc) (hx : a.eval s = .slice A n c)
    (hg : Blk w g t cur) (hcur : cur.size = n * sz) (hl : Sl enc sz w b A n l) (hm : ∀ x, (enc x).length = sz) (hsz : 0 < sz) (h1 : ∀ x, ∀ u ∈ enc x, u.oneCell' = true)
    (h : ∀ w', Blk w' g t (l.flatMap enc).toArray → w.grownBy w' (some g) → wpList P ops Q rest (a.put o.dst (goInt n)) w') : wpList P ops Q (o :: rest) a w := by
  refine wpList_plain hgd fun K hK => ?_
  obtain ⟨w', hrun, h2, h3⟩ := run_copy_sl (P := P) w T o.type elem i g n dc c t cur b A l ht hi hs hg hcur hl hm hsz h1
  unfold Oper.wp
  simp [execOp, ho, resolve, invoke, builtin, hd, hx, hrun, Result.andThen]
  exact hK _ _ (h w' h2 h3)
end
theorem make_sales (n : Nat) (hn : n ≤ 1000000000) (W : World) : (Instr.makeSlice 22 (.int .i64 (n : Int)) (.int .i64 (n : Int))).run Tryd.prog W = .ok (.slice (some ⟨W.heap.size, 0, none⟩) n n) (W.alloc (.cells (madeCells #[.int .i64 0, .int .i64 0, .int .i64 0, .int .i64 0, .int .i64 0, .int .i64 0] (n * 6)) 31)) := by
  have h := info_parts (show (Tryd.prog.info? 31).map (fun i => (i.zero, i.size, i.bytes)) = some (some (.agg #[.int .i64 0, .int .i64 0, .int .i64 0, .int .i64 0, .int .i64 0, .int .i64 0]), 6, 48) by kernel_rfl)
  obtain ⟨i0, hi, iz0, iz1, iz2⟩ := h
  have hr := run_make (P := Tryd.prog) (w := W) 22 31 i0 _ Tryd.underlying22 hi iz0 .i64 .i64 (n : Int) (n : Int) (by omega) (Int.le_refl _) (by rw [iz2]; omega) (by omega)
  rw [hr, iz1]
  simp [Value.cells]
end Go.Proofs.YtjmppionedcfeaaDoor
