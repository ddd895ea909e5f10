/-
  How sales, steps, finds, spans lie in cells.
-/
import Derived.Test.YtmoolcpogilgkaaPure
import Derived.Test.YtmoolcpogilgkaaReg
set_option linter.unusedVariables false
set_option linter.unusedSimpArgs false
namespace Go.Proofs.Ytmoolcpogilgkaa
open Go.RowKit

def encS (s : Sale) : List Value := [.int .i64 s.st, .int .i64 s.gd, .int .i64 s.gl, .int .i64 s.gh, .int .i64 s.cl, .int .i64 s.ch]
theorem encS_len (x : Sale) : (encS x).length = 6 := rfl
def encP (s : Step) : List Value := [.int .i64 s.fr, .int .i64 s.sh]
theorem encP_len (x : Step) : (encP x).length = 2 := rfl
def encF (s : Found) : List Value := [.int .i64 s.sa, .int .i64 s.gr, .int .i64 s.ce]
theorem encF_len (x : Found) : (encF x).length = 3 := rfl
def encD (s : Sold) : List Value := [.int .i64 s.gr, .int .i64 s.ce]
theorem encD_len (x : Sold) : (encD x).length = 2 := rfl

def encR (s : Span) : List Value := [.int .i64 s.lo, .int .i64 s.hi]
theorem encR_len (x : Span) : (encR x).length = 2 := rfl

theorem Sl.atS {w : World} {b n : Nat} {A : Option Addr} {l : List Sale} (h : Sl encS 6 w b A n l) {k : Nat} (hk : k < l.length) :
    ∃ o, A = some ⟨b, o, none⟩ ∧ b < w.heap.size ∧ w.cell? ⟨b, o + k * 6, none⟩ = some (.int .i64 l[k].st) ∧ w.cell? ⟨b, o + k * 6 + 1, none⟩ = some (.int .i64 l[k].gd) ∧ w.cell? ⟨b, o + k * 6 + 2, none⟩ = some (.int .i64 l[k].gl) ∧ w.cell? ⟨b, o + k * 6 + 3, none⟩ = some (.int .i64 l[k].gh) ∧ w.cell? ⟨b, o + k * 6 + 4, none⟩ = some (.int .i64 l[k].cl) ∧ w.cell? ⟨b, o + k * 6 + 5, none⟩ = some (.int .i64 l[k].ch) := by
  obtain ⟨o, h1, h2, h3⟩ := h.at_ hk
  exact ⟨o, h1, h2, h3 0 _ rfl, h3 1 _ rfl, h3 2 _ rfl, h3 3 _ rfl, h3 4 _ rfl, h3 5 _ rfl⟩
theorem Sl.atP {w : World} {b n : Nat} {A : Option Addr} {l : List Step} (h : Sl encP 2 w b A n l) {k : Nat} (hk : k < l.length) :
    ∃ o, A = some ⟨b, o, none⟩ ∧ b < w.heap.size ∧ w.cell? ⟨b, o + k * 2, none⟩ = some (.int .i64 l[k].fr) ∧ w.cell? ⟨b, o + k * 2 + 1, none⟩ = some (.int .i64 l[k].sh) := by
  obtain ⟨o, h1, h2, h3⟩ := h.at_ hk
  exact ⟨o, h1, h2, h3 0 _ rfl, h3 1 _ rfl⟩
theorem Sl.atF {w : World} {b n : Nat} {A : Option Addr} {l : List Found} (h : Sl encF 3 w b A n l) {k : Nat} (hk : k < l.length) :
    ∃ o, A = some ⟨b, o, none⟩ ∧ b < w.heap.size ∧ w.cell? ⟨b, o + k * 3, none⟩ = some (.int .i64 l[k].sa) ∧ w.cell? ⟨b, o + k * 3 + 1, none⟩ = some (.int .i64 l[k].gr) ∧ w.cell? ⟨b, o + k * 3 + 2, none⟩ = some (.int .i64 l[k].ce) := by
  obtain ⟨o, h1, h2, h3⟩ := h.at_ hk
  exact ⟨o, h1, h2, h3 0 _ rfl, h3 1 _ rfl, h3 2 _ rfl⟩
theorem Sl.atD {w : World} {b n : Nat} {A : Option Addr} {l : List Sold} (h : Sl encD 2 w b A n l) {k : Nat} (hk : k < l.length) :
    ∃ o, A = some ⟨b, o, none⟩ ∧ b < w.heap.size ∧ w.cell? ⟨b, o + k * 2, none⟩ = some (.int .i64 l[k].gr) ∧ w.cell? ⟨b, o + k * 2 + 1, none⟩ = some (.int .i64 l[k].ce) := by
  obtain ⟨o, h1, h2, h3⟩ := h.at_ hk
  exact ⟨o, h1, h2, h3 0 _ rfl, h3 1 _ rfl⟩
theorem Sl.atR {w : World} {b n : Nat} {A : Option Addr} {l : List Span} (h : Sl encR 2 w b A n l) {k : Nat} (hk : k < l.length) :
    ∃ o, A = some ⟨b, o, none⟩ ∧ b < w.heap.size ∧ w.cell? ⟨b, o + k * 2, none⟩ = some (.int .i64 l[k].lo) ∧ w.cell? ⟨b, o + k * 2 + 1, none⟩ = some (.int .i64 l[k].hi) := by
  obtain ⟨o, h1, h2, h3⟩ := h.at_ hk
  exact ⟨o, h1, h2, h3 0 _ rfl, h3 1 _ rfl⟩

end Go.Proofs.Ytmoolcpogilgkaa
