/-
  An audit with valid finds: what Audited of the program does then.
-/
import Derived.Test.YtkcdknjgjidnnaaAud
import Derived.Test.YtkcdknjgjidnnaaAudOk
set_option linter.unusedVariables false
set_option linter.unusedSimpArgs false
namespace Go.Proofs.Ytkcdknjgjidnnaa
open Go.RowKit

theorem aud_ok (st gd : Int) (b n c b2 m c2 : Nat) (A A2 : Option Addr) (l : List Sale) (fs : List Found) (w : World) (hl : Sl encS 6 w b A n l) (hf : Sl encF 3 w b2 A2 m fs) (hb : BookIn st gd l) (hi : FindsIn l fs) (h40 : fs.length ≤ 40) :
    Calls Try.prog 43 #[.agg #[.int .i64 st, .int .i64 gd, .slice A n c], .slice A2 m c2] w fun e w' => ∃ (A' : Option Addr) (c' b' : Nat), e = .returned (.tuple #[.agg #[.int .i64 st, .int .i64 gd, .slice A' n c'], .int .i64 0]) ∧ Sl encS 6 w' b' A' n (applyF l fs) ∧ w.heap.size ≤ b' ∧ Below w.heap.size w w' := by
  have h1 : n ≤ 1000000000000 := by have := hl.len; have := hb.len; omega
  have h2 : m ≤ 1000000000000 := by have := hf.len; omega
  refine (audited_any st gd b n c b2 m c2 A A2 l fs w hl hf h1 h2).mono ?_
  rw [audited_ok hb hi h40]
  rintro e w' ⟨A', m', c', b', rfl, hs, hb', hB⟩
  have : m' = n := by rw [hs.len, applyF_len, hl.len]
  subst this
  exact ⟨A', c', b', rfl, hs, hb', hB⟩
theorem BookIn.narrow {st gd : Int} {l l' : List Sale} (h : BookIn st gd l) (hN : Narrow l' l) : BookIn st gd l' := by
  refine ⟨h.st0, h.st1, h.gd0, h.gd1, by rw [hN.len]; exact h.len, ?_⟩
  have hs := h.sales
  clear h
  induction hN with
  | nil => simp
  | @cons a b l m hab _ ih =>
    intro s hs'
    rcases List.mem_cons.1 hs' with rfl | hs'
    · exact hab.in (hs b List.mem_cons_self)
    · exact ih (fun s hs'' => hs s (List.mem_cons_of_mem _ hs'')) s hs'

end Go.Proofs.Ytkcdknjgjidnnaa
