/-
  The law PriceAudits: what its four lists hold, in whatever order they are made.
-/
import Derived.Test.YtkcdknjgjidnnaaRegInv
import Derived.Test.YtkcdknjgjidnnaaBooks
import Derived.Test.YtkcdknjgjidnnaaRows2
import Derived.Test.YtkcdknjgjidnnaaDie
set_option linter.unusedVariables false
set_option linter.unusedSimpArgs false
namespace Go.Proofs.Ytkcdknjgjidnnaa
open Go.RowKit

theorem blk_ne {W : World} {B d : Nat} {t t' : TypeId} {cs cs' : Array Value} (h : Blk W B t cs) (h' : Blk W d t' cs') (hne : t ≠ t') : B ≠ d := by
  rintro rfl
  have := (show W.heap[B]? = _ from h).symm.trans h'
  simp at this
  exact hne this.2
/-- blocks of other types than T stay -/
def Kee (T : TypeId) (W W' : World) : Prop := ∀ B t cs, t ≠ T → Blk W B t cs → Blk W' B t cs
theorem Kee.alloc (T : TypeId) (W : World) (o : Obj) : Kee T W (W.alloc o) := fun _ _ _ _ h => h.alloc o
theorem Kee.cast {W W' : World} {d : Nat} (hd : IsDie W d) (hg : W.grownBy W' (some d)) : Kee 94 W W' := fun B t cs hne h => by
  obtain ⟨f, _, hb⟩ := hd
  exact h.grown hg (fun e => blk_ne h hb hne (by injection e))
theorem Kee.app {W W' : World} {base sz n : Nat} {e : TypeId} {v : Value} {xs : List Value} (ho : W.ownsRow base e sz v n xs) (hg : W.grownBy W' v.ownBlock) : Kee e W W' := fun B t cs hne h => h.grown hg (own_ne hne h ho)

/-- the old things -/
structure AK (w : World) (d p0 p1 pf base : Nat) (x0 x1 : BookD) (y0 y1 : SlD Found) (fd : Found) (W : World) : Prop where
  low : Below w.heap.size w W
  die : IsDie W d
  k0 : Blk W p0 24 #[.int .i64 x0.st, .int .i64 x0.gd, .slice x0.A x0.n x0.c]
  k1 : Blk W p1 24 #[.int .i64 x1.st, .int .i64 x1.gd, .slice x1.A x1.n x1.c]
  kf : Blk W pf 78 #[.int .i64 fd.sa, .int .i64 fd.gr, .int .i64 fd.ce]
  a0 : Away d W x0
  a1 : Away d W x1
  b0 : AwayL encF 3 60 d W y0
  b1 : AwayL encF 3 60 d W y1
  n0 : p0 ≠ d
  n1 : p1 ≠ d
  nf : pf ≠ d
  hd : w.heap.size ≤ d
  z : base ≤ W.heap.size
  zd : d < base
  z0 : p0 < base
  z1 : p1 < base
  zf : pf < base
  za0 : 0 < x0.n → x0.b < base
  za1 : 0 < x1.n → x1.b < base
  zb0 : 0 < y0.n → y0.b < base
  zb1 : 0 < y1.n → y1.b < base
section
variable {w : World} {d p0 p1 pf base : Nat} {x0 x1 : BookD} {y0 y1 : SlD Found} {fd : Found} {W W' : World}
theorem AK.cast (h : AK w d p0 p1 pf base x0 x1 y0 y1 fd W) (hg : W.grownBy W' (some d)) (hd' : IsDie W' d) : AK w d p0 p1 pf base x0 x1 y0 y1 fd W' :=
  ⟨Below.stepG hg h.low (Nat.le_refl _) h.hd, hd', h.k0.grown hg (fun e => h.n0 (by injection e)), h.k1.grown hg (fun e => h.n1 (by injection e)), h.kf.grown hg (fun e => h.nf (by injection e)), h.a0.keep hg, h.a1.keep hg, h.b0.keep hg, h.b1.keep hg, h.n0, h.n1, h.nf, h.hd, Nat.le_trans h.z hg.size, h.zd, h.z0, h.z1, h.zf, h.za0, h.za1, h.zb0, h.zb1⟩
theorem AK.alloc (h : AK w d p0 p1 pf base x0 x1 y0 y1 fd W) (o : Obj) : AK w d p0 p1 pf base x0 x1 y0 y1 fd (W.alloc o) := h.cast (only_alloc (only_refl W d) o) (h.die.alloc o)
theorem AK.drew (h : AK w d p0 p1 pf base x0 x1 y0 y1 fd W) : AK w d p0 p1 pf base x0 x1 y0 y1 fd W.drew := h.cast (only_drew (only_refl W d)) h.die
theorem AK.app (h : AK w d p0 p1 pf base x0 x1 y0 y1 fd W) {sz n : Nat} {e : TypeId} {v : Value} {xs : List Value} (ho : W.ownsRow base e sz v n xs) (hg : W.grownBy W' v.ownBlock) : AK w d p0 p1 pf base x0 x1 y0 y1 fd W' := by
  have hk : ∀ b, b < base → W'.heap[b]? = W.heap[b]? := fun b hb => own_keeps ho hg hb (Nat.lt_of_lt_of_le hb h.z)
  exact ⟨h.low.grown hg h.low.size (fun k e => by have := (ho.lt k e).1; have := h.hd; have := h.zd; omega), h.die.keep (hk d h.zd), (hk p0 h.z0).trans h.k0, (hk p1 h.z1).trans h.k1, (hk pf h.zf).trans h.kf,
    ⟨h.a0.sl.keep (fun hn => hk _ (h.za0 hn)) hg.size, h.a0.ne, h.a0.le⟩, ⟨h.a1.sl.keep (fun hn => hk _ (h.za1 hn)) hg.size, h.a1.ne, h.a1.le⟩, ⟨h.b0.sl.keep (fun hn => hk _ (h.zb0 hn)) hg.size, h.b0.ne, h.b0.le⟩, ⟨h.b1.sl.keep (fun hn => hk _ (h.zb1 hn)) hg.size, h.b1.ne, h.b1.le⟩,
    h.n0, h.n1, h.nf, h.hd, Nat.le_trans h.z hg.size, h.zd, h.z0, h.z1, h.zf, h.za0, h.za1, h.zb0, h.zb1⟩
theorem AK.cells (h : AK w d p0 p1 pf base x0 x1 y0 y1 fd W) :
    (W.cell? ⟨p0, 0, none⟩ = some (.int .i64 x0.st) ∧ W.cell? ⟨p0, 1, none⟩ = some (.int .i64 x0.gd) ∧ W.cell? ⟨p0, 2, none⟩ = some (.slice x0.A x0.n x0.c)) ∧
    (W.cell? ⟨p1, 0, none⟩ = some (.int .i64 x1.st) ∧ W.cell? ⟨p1, 1, none⟩ = some (.int .i64 x1.gd) ∧ W.cell? ⟨p1, 2, none⟩ = some (.slice x1.A x1.n x1.c)) ∧
    (W.cell? ⟨pf, 0, none⟩ = some (.int .i64 fd.sa) ∧ W.cell? ⟨pf, 1, none⟩ = some (.int .i64 fd.gr) ∧ W.cell? ⟨pf, 2, none⟩ = some (.int .i64 fd.ce)) :=
  ⟨⟨h.k0.cell 0, h.k0.cell 1, h.k0.cell 2⟩, ⟨h.k1.cell 0, h.k1.cell 1, h.k1.cell 2⟩, ⟨h.kf.cell 0, h.kf.cell 1, h.kf.cell 2⟩⟩
end

def idxA : List Nat := [4, 7, 10, 11, 18, 23, 26, 28, 30, 31, 33, 34, 35, 36, 37]
def slotsA : List Nat := [57, 60, 63, 64, 71, 76, 79, 81, 83, 84, 86, 16, 17, 18, 19]
def B12 (x0 x1 : BookD) : Array Value := #[.int .i64 x0.st, .int .i64 x0.gd, .slice x0.A x0.n x0.c, .int .i64 x1.st, .int .i64 x1.gd, .slice x1.A x1.n x1.c, .int .i64 x1.st, .int .i64 x1.gd, .slice x1.A x1.n x1.c, .int .i64 x1.st, .int .i64 x1.gd, .slice x1.A x1.n x1.c]

/-- what is known when some of the operations have come up -/
structure AI (w : World) (d p0 p1 pf base : Nat) (x0 x1 : BookD) (y0 y1 : SlD Found) (fd : Found) (num many : Int) (y2 : SlD Found) (L : Nat → Bool) (f : Nat → Value) (W : World) : Prop where
  k : AK w d p0 p1 pf base x0 x1 y0 y1 fd W
  pre : ∀ j, j < 38 → j ∉ idxA → L j = true
  f4 : L 4 = true → ∃ g, f 57 = .slice (some ⟨g, 0, none⟩) 4 4 ∧ Blk W g 24 (B12 x0 x1)
  f7 : L 7 = true → ∃ v : Int, f 60 = .int .i64 v
  f10 : L 10 = true → ∃ v : Int, f 63 = .int .i64 v
  f11 : L 11 = true → ∃ (g : Nat) (v1 v2 : Int), f 64 = .slice (some ⟨g, 0, none⟩) 4 4 ∧ Blk W g 3 #[.int .i64 num, .int .i64 v1, .int .i64 num, .int .i64 v2]
  f18 : L 18 = true → ∃ v : Int, f 71 = .int .i64 v
  f23 : L 23 = true → ∃ (g : Nat) (v : Int), f 76 = .slice (some ⟨g, 0, none⟩) 4 4 ∧ Blk W g 3 #[.int .i64 many, .int .i64 v, .int .i64 many, .int .i64 x1.n]
  f26 : L 26 = true → L 28 = false → ∃ g, f 79 = .slice (some ⟨g, 0, none⟩) 0 0 ∧ W.ownsRow base 78 3 (f 79) 0 []
  f28 : L 28 = true → L 31 = false → ∃ A c, f 81 = .slice A y1.n c ∧ W.ownsRow base 78 3 (f 81) y1.n (y1.l.flatMap encF)
  f30 : L 30 = true → L 31 = false → ∃ g, f 83 = .slice (some ⟨g, 0, none⟩) 1 1 ∧ Blk W g 78 #[.int .i64 fd.sa, .int .i64 fd.gr, .int .i64 fd.ce] ∧ (L 26 = true → L 28 = false → (f 79).ownBlock ≠ some g) ∧ (L 28 = true → (f 81).ownBlock ≠ some g)
  f31 : L 31 = true → f 84 = .slice y2.A y2.n y2.c ∧ AwayL encF 3 61 d W y2 ∧ y2.l = y1.l ++ [fd]
  f33 : L 33 = true → ∃ g, f 86 = .slice (some ⟨g, 0, none⟩) 4 4 ∧ Blk W g 74 #[.slice y0.A y0.n y0.c, .slice y1.A y1.n y1.c, .slice y2.A y2.n y2.c, .slice y0.A y0.n y0.c]
  f34 : L 34 = true → f 16 = f 57
  f35 : L 35 = true → f 17 = f 64
  f36 : L 36 = true → f 18 = f 76
  f37 : L 37 = true → f 19 = f 86
  m31 : L 31 = true → L 28 = true ∧ L 18 = true
  m28 : L 28 = true → L 18 = true
  m10 : L 10 = true → L 7 = true
  m18 : L 18 = true → L 10 = true
  m26 : L 28 = true → L 26 = true
  m30 : L 31 = true → L 30 = true
  m33 : L 33 = true → L 31 = true
  m34 : L 34 = true → L 4 = true
  m35 : L 35 = true → L 11 = true
  m36 : L 36 = true → L 23 = true
  m37 : L 37 = true → L 33 = true
section
variable {w : World} {d p0 p1 pf base : Nat} {x0 x1 : BookD} {y0 y1 : SlD Found} {fd : Found} {num many : Int} {y2 : SlD Found} {L : Nat → Bool} {f : Nat → Value} {W W' : World}
theorem AI.alloc (h : AI w d p0 p1 pf base x0 x1 y0 y1 fd num many y2 L f W) (o : Obj) : AI w d p0 p1 pf base x0 x1 y0 y1 fd num many y2 L f (W.alloc o) where
  k := h.k.alloc o
  pre := h.pre
  f4 := fun e => by obtain ⟨g, h1, h2⟩ := h.f4 e; exact ⟨g, h1, h2.alloc o⟩
  f7 := h.f7
  f10 := h.f10
  f11 := fun e => by obtain ⟨g, v1, v2, h1, h2⟩ := h.f11 e; exact ⟨g, v1, v2, h1, h2.alloc o⟩
  f18 := h.f18
  f23 := fun e => by obtain ⟨g, v, h1, h2⟩ := h.f23 e; exact ⟨g, v, h1, h2.alloc o⟩
  f26 := fun e e' => by obtain ⟨g, h1, h2⟩ := h.f26 e e'; exact ⟨g, h1, h2.alloc o⟩
  f28 := fun e e' => by obtain ⟨A, c, h1, h2⟩ := h.f28 e e'; exact ⟨A, c, h1, h2.alloc o⟩
  f30 := fun e e' => by obtain ⟨g, h1, h2, h3⟩ := h.f30 e e'; exact ⟨g, h1, h2.alloc o, h3⟩
  f31 := fun e => by obtain ⟨h1, h2, h3⟩ := h.f31 e; exact ⟨h1, ⟨h2.sl.alloc o, h2.ne, h2.le⟩, h3⟩
  f33 := fun e => by obtain ⟨g, h1, h2⟩ := h.f33 e; exact ⟨g, h1, h2.alloc o⟩
  f34 := h.f34
  f35 := h.f35
  f36 := h.f36
  f37 := h.f37
  m31 := h.m31
  m28 := h.m28
  m10 := h.m10
  m18 := h.m18
  m26 := h.m26
  m30 := h.m30
  m33 := h.m33
  m34 := h.m34
  m35 := h.m35
  m36 := h.m36
  m37 := h.m37
theorem AI.cast (h : AI w d p0 p1 pf base x0 x1 y0 y1 fd num many y2 L f W) (hn : L 18 = false) (hg : W.grownBy W' (some d)) (hd' : IsDie W' d) : AI w d p0 p1 pf base x0 x1 y0 y1 fd num many y2 L f W' := by
  have hk := Kee.cast h.k.die hg
  have h28 : L 28 = false := by
    cases e : L 28
    · rfl
    · have := h.m28 e; rw [hn] at this; cases this
  have h31 : L 31 = false := by
    cases e : L 31
    · rfl
    · have := (h.m31 e).2; rw [hn] at this; cases this
  exact {
    k := h.k.cast hg hd'
    pre := h.pre
    f4 := fun e => by obtain ⟨g, h1, h2⟩ := h.f4 e; exact ⟨g, h1, hk _ _ _ (by decide) h2⟩
    f7 := h.f7
    f10 := h.f10
    f11 := fun e => by obtain ⟨g, v1, v2, h1, h2⟩ := h.f11 e; exact ⟨g, v1, v2, h1, hk _ _ _ (by decide) h2⟩
    f18 := h.f18
    f23 := fun e => by obtain ⟨g, v, h1, h2⟩ := h.f23 e; exact ⟨g, v, h1, hk _ _ _ (by decide) h2⟩
    f26 := fun e e' => by obtain ⟨g, h1, h2⟩ := h.f26 e e'; exact ⟨g, h1, ownsRow_die h2 hg h.k.zd⟩
    f28 := fun e => by rw [h28] at e; cases e
    f30 := fun e e' => by obtain ⟨g, h1, h2, h3⟩ := h.f30 e e'; exact ⟨g, h1, hk _ _ _ (by decide) h2, h3⟩
    f31 := fun e => by rw [h31] at e; cases e
    f33 := fun e => by obtain ⟨g, h1, h2⟩ := h.f33 e; exact ⟨g, h1, hk _ _ _ (by decide) h2⟩
    f34 := h.f34
    f35 := h.f35
    f36 := h.f36
    f37 := h.f37
    m31 := h.m31
    m28 := h.m28
    m10 := h.m10
    m18 := h.m18
    m26 := h.m26
    m30 := h.m30
    m33 := h.m33
    m34 := h.m34
    m35 := h.m35
    m36 := h.m36
    m37 := h.m37 }
theorem AI.start (hk : AK w d p0 p1 pf base x0 x1 y0 y1 fd W) (hpre : ∀ j, j < 38 → j ∉ idxA → L j = true) (hno : ∀ j ∈ idxA, L j = false) : AI w d p0 p1 pf base x0 x1 y0 y1 fd num many y2 L f W := by
  have h4 := hno 4 (by decide); have h7 := hno 7 (by decide); have h10 := hno 10 (by decide); have h11 := hno 11 (by decide); have h18 := hno 18 (by decide); have h23 := hno 23 (by decide); have h26 := hno 26 (by decide); have h28 := hno 28 (by decide); have h30 := hno 30 (by decide); have h31 := hno 31 (by decide); have h33 := hno 33 (by decide); have h34 := hno 34 (by decide); have h35 := hno 35 (by decide); have h36 := hno 36 (by decide); have h37 := hno 37 (by decide)
  constructor
  · exact hk
  · exact hpre
  all_goals
    intro e
    first
      | (rw [h4] at e; cases e) | (rw [h7] at e; cases e) | (rw [h10] at e; cases e) | (rw [h11] at e; cases e) | (rw [h18] at e; cases e) | (rw [h23] at e; cases e) | (rw [h26] at e; cases e) | (rw [h28] at e; cases e) | (rw [h30] at e; cases e) | (rw [h31] at e; cases e) | (rw [h33] at e; cases e) | (rw [h34] at e; cases e) | (rw [h35] at e; cases e) | (rw [h36] at e; cases e) | (rw [h37] at e; cases e)
end
theorem Sl.of_blkA {α : Type} {enc : α → List Value} {m : Nat} (hm : ∀ x, (enc x).length = m) {W : World} {g : Nat} {t : TypeId} {l : List α} {cs : Array Value} (h : Blk W g t cs) (hcs : cs.toList = l.flatMap enc) : Sl enc m W g (some ⟨g, 0, none⟩) l.length l := by
  refine ⟨rfl, fun hn => ⟨0, rfl, h.lt, fun k hk j u hu => ?_⟩⟩
  rw [h.cell, ← Array.getElem?_toList, hcs, show 0 + k * m + j = k * m + j from by omega]
  exact flat_at hm l k hk j u hu
/-! each operation -/
section
variable {w : World} {d p0 p1 pf base : Nat} {x0 x1 : BookD} {y0 y1 : SlD Found} {fd : Found} {num many : Int} {y2 : SlD Found} {L : Nat → Bool} {f : Nat → Value} {W W' : World}
theorem AI.p4 (h : AI w d p0 p1 pf base x0 x1 y0 y1 fd num many y2 L f W) (hL : L 4 = false) {g : Nat} (hb : Blk W g 24 (B12 x0 x1)) : AI w d p0 p1 pf base x0 x1 y0 y1 fd num many y2 (updB L 4) (updV f 57 (.slice (some ⟨g, 0, none⟩) 4 4)) W :=
  { k := h.k
    pre := fun j h1 h2 => (by simp [updB, h.pre j h1 h2])
    f4 := fun _ => ⟨g, by simp [updV], hb⟩
    f7 := fun e => (by simpa [updV, updB] using h.f7 (by simpa [updB] using e))
    f10 := fun e => (by simpa [updV, updB] using h.f10 (by simpa [updB] using e))
    f11 := fun e => (by simpa [updV, updB] using h.f11 (by simpa [updB] using e))
    f18 := fun e => (by simpa [updV, updB] using h.f18 (by simpa [updB] using e))
    f23 := fun e => (by simpa [updV, updB] using h.f23 (by simpa [updB] using e))
    f26 := fun e e' => (by simpa [updV, updB] using h.f26 (by simpa [updB] using e) (by simpa [updB] using e'))
    f28 := fun e e' => (by simpa [updV, updB] using h.f28 (by simpa [updB] using e) (by simpa [updB] using e'))
    f30 := fun e e' => (by simpa [updV, updB] using h.f30 (by simpa [updB] using e) (by simpa [updB] using e'))
    f31 := fun e => (by simpa [updV, updB] using h.f31 (by simpa [updB] using e))
    f33 := fun e => (by simpa [updV, updB] using h.f33 (by simpa [updB] using e))
    f34 := fun e => absurd (h.m34 (by simpa [updB] using e)) (by rw [hL]; decide)
    f35 := fun e => (by simpa [updV, updB] using h.f35 (by simpa [updB] using e))
    f36 := fun e => (by simpa [updV, updB] using h.f36 (by simpa [updB] using e))
    f37 := fun e => (by simpa [updV, updB] using h.f37 (by simpa [updB] using e))
    m31 := fun e => (by have h9 := h.m31 (by simpa [updB] using e); simp [updB, h9.1, h9.2])
    m28 := fun e => (by have h9 := h.m28 (by simpa [updB] using e); simp [updB, h9])
    m10 := fun e => (by have h9 := h.m10 (by simpa [updB] using e); simp [updB, h9])
    m18 := fun e => (by have h9 := h.m18 (by simpa [updB] using e); simp [updB, h9])
    m26 := fun e => (by have h9 := h.m26 (by simpa [updB] using e); simp [updB, h9])
    m30 := fun e => (by have h9 := h.m30 (by simpa [updB] using e); simp [updB, h9])
    m33 := fun e => (by have h9 := h.m33 (by simpa [updB] using e); simp [updB, h9])
    m34 := fun e => (by have h9 := h.m34 (by simpa [updB] using e); simp [updB, h9])
    m35 := fun e => (by have h9 := h.m35 (by simpa [updB] using e); simp [updB, h9])
    m36 := fun e => (by have h9 := h.m36 (by simpa [updB] using e); simp [updB, h9])
    m37 := fun e => (by have h9 := h.m37 (by simpa [updB] using e); simp [updB, h9]) }
theorem AI.p7 (h : AI w d p0 p1 pf base x0 x1 y0 y1 fd num many y2 L f W) (v : Int) : AI w d p0 p1 pf base x0 x1 y0 y1 fd num many y2 (updB L 7) (updV f 60 (.int .i64 v)) W :=
  { k := h.k
    pre := fun j h1 h2 => (by simp [updB, h.pre j h1 h2])
    f4 := fun e => (by simpa [updV, updB] using h.f4 (by simpa [updB] using e))
    f7 := fun _ => ⟨v, by simp [updV]⟩
    f10 := fun e => (by simpa [updV, updB] using h.f10 (by simpa [updB] using e))
    f11 := fun e => (by simpa [updV, updB] using h.f11 (by simpa [updB] using e))
    f18 := fun e => (by simpa [updV, updB] using h.f18 (by simpa [updB] using e))
    f23 := fun e => (by simpa [updV, updB] using h.f23 (by simpa [updB] using e))
    f26 := fun e e' => (by simpa [updV, updB] using h.f26 (by simpa [updB] using e) (by simpa [updB] using e'))
    f28 := fun e e' => (by simpa [updV, updB] using h.f28 (by simpa [updB] using e) (by simpa [updB] using e'))
    f30 := fun e e' => (by simpa [updV, updB] using h.f30 (by simpa [updB] using e) (by simpa [updB] using e'))
    f31 := fun e => (by simpa [updV, updB] using h.f31 (by simpa [updB] using e))
    f33 := fun e => (by simpa [updV, updB] using h.f33 (by simpa [updB] using e))
    f34 := fun e => (by simpa [updV, updB] using h.f34 (by simpa [updB] using e))
    f35 := fun e => (by simpa [updV, updB] using h.f35 (by simpa [updB] using e))
    f36 := fun e => (by simpa [updV, updB] using h.f36 (by simpa [updB] using e))
    f37 := fun e => (by simpa [updV, updB] using h.f37 (by simpa [updB] using e))
    m31 := fun e => (by have h9 := h.m31 (by simpa [updB] using e); simp [updB, h9.1, h9.2])
    m28 := fun e => (by have h9 := h.m28 (by simpa [updB] using e); simp [updB, h9])
    m10 := fun e => (by have h9 := h.m10 (by simpa [updB] using e); simp [updB, h9])
    m18 := fun e => (by have h9 := h.m18 (by simpa [updB] using e); simp [updB, h9])
    m26 := fun e => (by have h9 := h.m26 (by simpa [updB] using e); simp [updB, h9])
    m30 := fun e => (by have h9 := h.m30 (by simpa [updB] using e); simp [updB, h9])
    m33 := fun e => (by have h9 := h.m33 (by simpa [updB] using e); simp [updB, h9])
    m34 := fun e => (by have h9 := h.m34 (by simpa [updB] using e); simp [updB, h9])
    m35 := fun e => (by have h9 := h.m35 (by simpa [updB] using e); simp [updB, h9])
    m36 := fun e => (by have h9 := h.m36 (by simpa [updB] using e); simp [updB, h9])
    m37 := fun e => (by have h9 := h.m37 (by simpa [updB] using e); simp [updB, h9]) }
theorem AI.p10 (h : AI w d p0 p1 pf base x0 x1 y0 y1 fd num many y2 L f W) (v : Int) (hm : L 7 = true) : AI w d p0 p1 pf base x0 x1 y0 y1 fd num many y2 (updB L 10) (updV f 63 (.int .i64 v)) W :=
  { k := h.k
    pre := fun j h1 h2 => (by simp [updB, h.pre j h1 h2])
    f4 := fun e => (by simpa [updV, updB] using h.f4 (by simpa [updB] using e))
    f7 := fun e => (by simpa [updV, updB] using h.f7 (by simpa [updB] using e))
    f10 := fun _ => ⟨v, by simp [updV]⟩
    f11 := fun e => (by simpa [updV, updB] using h.f11 (by simpa [updB] using e))
    f18 := fun e => (by simpa [updV, updB] using h.f18 (by simpa [updB] using e))
    f23 := fun e => (by simpa [updV, updB] using h.f23 (by simpa [updB] using e))
    f26 := fun e e' => (by simpa [updV, updB] using h.f26 (by simpa [updB] using e) (by simpa [updB] using e'))
    f28 := fun e e' => (by simpa [updV, updB] using h.f28 (by simpa [updB] using e) (by simpa [updB] using e'))
    f30 := fun e e' => (by simpa [updV, updB] using h.f30 (by simpa [updB] using e) (by simpa [updB] using e'))
    f31 := fun e => (by simpa [updV, updB] using h.f31 (by simpa [updB] using e))
    f33 := fun e => (by simpa [updV, updB] using h.f33 (by simpa [updB] using e))
    f34 := fun e => (by simpa [updV, updB] using h.f34 (by simpa [updB] using e))
    f35 := fun e => (by simpa [updV, updB] using h.f35 (by simpa [updB] using e))
    f36 := fun e => (by simpa [updV, updB] using h.f36 (by simpa [updB] using e))
    f37 := fun e => (by simpa [updV, updB] using h.f37 (by simpa [updB] using e))
    m31 := fun e => (by have h9 := h.m31 (by simpa [updB] using e); simp [updB, h9.1, h9.2])
    m28 := fun e => (by have h9 := h.m28 (by simpa [updB] using e); simp [updB, h9])
    m10 := fun _ => (by simp [updB, hm])
    m18 := fun e => (by have h9 := h.m18 (by simpa [updB] using e); simp [updB, h9])
    m26 := fun e => (by have h9 := h.m26 (by simpa [updB] using e); simp [updB, h9])
    m30 := fun e => (by have h9 := h.m30 (by simpa [updB] using e); simp [updB, h9])
    m33 := fun e => (by have h9 := h.m33 (by simpa [updB] using e); simp [updB, h9])
    m34 := fun e => (by have h9 := h.m34 (by simpa [updB] using e); simp [updB, h9])
    m35 := fun e => (by have h9 := h.m35 (by simpa [updB] using e); simp [updB, h9])
    m36 := fun e => (by have h9 := h.m36 (by simpa [updB] using e); simp [updB, h9])
    m37 := fun e => (by have h9 := h.m37 (by simpa [updB] using e); simp [updB, h9]) }
theorem AI.p18 (h : AI w d p0 p1 pf base x0 x1 y0 y1 fd num many y2 L f W) (v : Int) (hm : L 10 = true) : AI w d p0 p1 pf base x0 x1 y0 y1 fd num many y2 (updB L 18) (updV f 71 (.int .i64 v)) W :=
  { k := h.k
    pre := fun j h1 h2 => (by simp [updB, h.pre j h1 h2])
    f4 := fun e => (by simpa [updV, updB] using h.f4 (by simpa [updB] using e))
    f7 := fun e => (by simpa [updV, updB] using h.f7 (by simpa [updB] using e))
    f10 := fun e => (by simpa [updV, updB] using h.f10 (by simpa [updB] using e))
    f11 := fun e => (by simpa [updV, updB] using h.f11 (by simpa [updB] using e))
    f18 := fun _ => ⟨v, by simp [updV]⟩
    f23 := fun e => (by simpa [updV, updB] using h.f23 (by simpa [updB] using e))
    f26 := fun e e' => (by simpa [updV, updB] using h.f26 (by simpa [updB] using e) (by simpa [updB] using e'))
    f28 := fun e e' => (by simpa [updV, updB] using h.f28 (by simpa [updB] using e) (by simpa [updB] using e'))
    f30 := fun e e' => (by simpa [updV, updB] using h.f30 (by simpa [updB] using e) (by simpa [updB] using e'))
    f31 := fun e => (by simpa [updV, updB] using h.f31 (by simpa [updB] using e))
    f33 := fun e => (by simpa [updV, updB] using h.f33 (by simpa [updB] using e))
    f34 := fun e => (by simpa [updV, updB] using h.f34 (by simpa [updB] using e))
    f35 := fun e => (by simpa [updV, updB] using h.f35 (by simpa [updB] using e))
    f36 := fun e => (by simpa [updV, updB] using h.f36 (by simpa [updB] using e))
    f37 := fun e => (by simpa [updV, updB] using h.f37 (by simpa [updB] using e))
    m31 := fun e => (by have h9 := h.m31 (by simpa [updB] using e); simp [updB, h9.1])
    m28 := fun _ => (by simp [updB])
    m10 := fun e => (by have h9 := h.m10 (by simpa [updB] using e); simp [updB, h9])
    m18 := fun _ => (by simp [updB, hm])
    m26 := fun e => (by have h9 := h.m26 (by simpa [updB] using e); simp [updB, h9])
    m30 := fun e => (by have h9 := h.m30 (by simpa [updB] using e); simp [updB, h9])
    m33 := fun e => (by have h9 := h.m33 (by simpa [updB] using e); simp [updB, h9])
    m34 := fun e => (by have h9 := h.m34 (by simpa [updB] using e); simp [updB, h9])
    m35 := fun e => (by have h9 := h.m35 (by simpa [updB] using e); simp [updB, h9])
    m36 := fun e => (by have h9 := h.m36 (by simpa [updB] using e); simp [updB, h9])
    m37 := fun e => (by have h9 := h.m37 (by simpa [updB] using e); simp [updB, h9]) }
theorem AI.p11 (h : AI w d p0 p1 pf base x0 x1 y0 y1 fd num many y2 L f W) (hL : L 11 = false) {g : Nat} {v1 v2 : Int} (hb : Blk W g 3 #[.int .i64 num, .int .i64 v1, .int .i64 num, .int .i64 v2]) : AI w d p0 p1 pf base x0 x1 y0 y1 fd num many y2 (updB L 11) (updV f 64 (.slice (some ⟨g, 0, none⟩) 4 4)) W :=
  { k := h.k
    pre := fun j h1 h2 => (by simp [updB, h.pre j h1 h2])
    f4 := fun e => (by simpa [updV, updB] using h.f4 (by simpa [updB] using e))
    f7 := fun e => (by simpa [updV, updB] using h.f7 (by simpa [updB] using e))
    f10 := fun e => (by simpa [updV, updB] using h.f10 (by simpa [updB] using e))
    f11 := fun _ => ⟨g, v1, v2, by simp [updV], hb⟩
    f18 := fun e => (by simpa [updV, updB] using h.f18 (by simpa [updB] using e))
    f23 := fun e => (by simpa [updV, updB] using h.f23 (by simpa [updB] using e))
    f26 := fun e e' => (by simpa [updV, updB] using h.f26 (by simpa [updB] using e) (by simpa [updB] using e'))
    f28 := fun e e' => (by simpa [updV, updB] using h.f28 (by simpa [updB] using e) (by simpa [updB] using e'))
    f30 := fun e e' => (by simpa [updV, updB] using h.f30 (by simpa [updB] using e) (by simpa [updB] using e'))
    f31 := fun e => (by simpa [updV, updB] using h.f31 (by simpa [updB] using e))
    f33 := fun e => (by simpa [updV, updB] using h.f33 (by simpa [updB] using e))
    f34 := fun e => (by simpa [updV, updB] using h.f34 (by simpa [updB] using e))
    f35 := fun e => absurd (h.m35 (by simpa [updB] using e)) (by rw [hL]; decide)
    f36 := fun e => (by simpa [updV, updB] using h.f36 (by simpa [updB] using e))
    f37 := fun e => (by simpa [updV, updB] using h.f37 (by simpa [updB] using e))
    m31 := fun e => (by have h9 := h.m31 (by simpa [updB] using e); simp [updB, h9.1, h9.2])
    m28 := fun e => (by have h9 := h.m28 (by simpa [updB] using e); simp [updB, h9])
    m10 := fun e => (by have h9 := h.m10 (by simpa [updB] using e); simp [updB, h9])
    m18 := fun e => (by have h9 := h.m18 (by simpa [updB] using e); simp [updB, h9])
    m26 := fun e => (by have h9 := h.m26 (by simpa [updB] using e); simp [updB, h9])
    m30 := fun e => (by have h9 := h.m30 (by simpa [updB] using e); simp [updB, h9])
    m33 := fun e => (by have h9 := h.m33 (by simpa [updB] using e); simp [updB, h9])
    m34 := fun e => (by have h9 := h.m34 (by simpa [updB] using e); simp [updB, h9])
    m35 := fun e => (by have h9 := h.m35 (by simpa [updB] using e); simp [updB, h9])
    m36 := fun e => (by have h9 := h.m36 (by simpa [updB] using e); simp [updB, h9])
    m37 := fun e => (by have h9 := h.m37 (by simpa [updB] using e); simp [updB, h9]) }
theorem AI.p23 (h : AI w d p0 p1 pf base x0 x1 y0 y1 fd num many y2 L f W) (hL : L 23 = false) {g : Nat} {v : Int} (hb : Blk W g 3 #[.int .i64 many, .int .i64 v, .int .i64 many, .int .i64 x1.n]) : AI w d p0 p1 pf base x0 x1 y0 y1 fd num many y2 (updB L 23) (updV f 76 (.slice (some ⟨g, 0, none⟩) 4 4)) W :=
  { k := h.k
    pre := fun j h1 h2 => (by simp [updB, h.pre j h1 h2])
    f4 := fun e => (by simpa [updV, updB] using h.f4 (by simpa [updB] using e))
    f7 := fun e => (by simpa [updV, updB] using h.f7 (by simpa [updB] using e))
    f10 := fun e => (by simpa [updV, updB] using h.f10 (by simpa [updB] using e))
    f11 := fun e => (by simpa [updV, updB] using h.f11 (by simpa [updB] using e))
    f18 := fun e => (by simpa [updV, updB] using h.f18 (by simpa [updB] using e))
    f23 := fun _ => ⟨g, v, by simp [updV], hb⟩
    f26 := fun e e' => (by simpa [updV, updB] using h.f26 (by simpa [updB] using e) (by simpa [updB] using e'))
    f28 := fun e e' => (by simpa [updV, updB] using h.f28 (by simpa [updB] using e) (by simpa [updB] using e'))
    f30 := fun e e' => (by simpa [updV, updB] using h.f30 (by simpa [updB] using e) (by simpa [updB] using e'))
    f31 := fun e => (by simpa [updV, updB] using h.f31 (by simpa [updB] using e))
    f33 := fun e => (by simpa [updV, updB] using h.f33 (by simpa [updB] using e))
    f34 := fun e => (by simpa [updV, updB] using h.f34 (by simpa [updB] using e))
    f35 := fun e => (by simpa [updV, updB] using h.f35 (by simpa [updB] using e))
    f36 := fun e => absurd (h.m36 (by simpa [updB] using e)) (by rw [hL]; decide)
    f37 := fun e => (by simpa [updV, updB] using h.f37 (by simpa [updB] using e))
    m31 := fun e => (by have h9 := h.m31 (by simpa [updB] using e); simp [updB, h9.1, h9.2])
    m28 := fun e => (by have h9 := h.m28 (by simpa [updB] using e); simp [updB, h9])
    m10 := fun e => (by have h9 := h.m10 (by simpa [updB] using e); simp [updB, h9])
    m18 := fun e => (by have h9 := h.m18 (by simpa [updB] using e); simp [updB, h9])
    m26 := fun e => (by have h9 := h.m26 (by simpa [updB] using e); simp [updB, h9])
    m30 := fun e => (by have h9 := h.m30 (by simpa [updB] using e); simp [updB, h9])
    m33 := fun e => (by have h9 := h.m33 (by simpa [updB] using e); simp [updB, h9])
    m34 := fun e => (by have h9 := h.m34 (by simpa [updB] using e); simp [updB, h9])
    m35 := fun e => (by have h9 := h.m35 (by simpa [updB] using e); simp [updB, h9])
    m36 := fun e => (by have h9 := h.m36 (by simpa [updB] using e); simp [updB, h9])
    m37 := fun e => (by have h9 := h.m37 (by simpa [updB] using e); simp [updB, h9]) }
theorem AI.p33 (h : AI w d p0 p1 pf base x0 x1 y0 y1 fd num many y2 L f W) (hL : L 33 = false) (hm : L 31 = true) {g : Nat} (hb : Blk W g 74 #[.slice y0.A y0.n y0.c, .slice y1.A y1.n y1.c, .slice y2.A y2.n y2.c, .slice y0.A y0.n y0.c]) : AI w d p0 p1 pf base x0 x1 y0 y1 fd num many y2 (updB L 33) (updV f 86 (.slice (some ⟨g, 0, none⟩) 4 4)) W :=
  { k := h.k
    pre := fun j h1 h2 => (by simp [updB, h.pre j h1 h2])
    f4 := fun e => (by simpa [updV, updB] using h.f4 (by simpa [updB] using e))
    f7 := fun e => (by simpa [updV, updB] using h.f7 (by simpa [updB] using e))
    f10 := fun e => (by simpa [updV, updB] using h.f10 (by simpa [updB] using e))
    f11 := fun e => (by simpa [updV, updB] using h.f11 (by simpa [updB] using e))
    f18 := fun e => (by simpa [updV, updB] using h.f18 (by simpa [updB] using e))
    f23 := fun e => (by simpa [updV, updB] using h.f23 (by simpa [updB] using e))
    f26 := fun e e' => (by simpa [updV, updB] using h.f26 (by simpa [updB] using e) (by simpa [updB] using e'))
    f28 := fun e e' => (by simpa [updV, updB] using h.f28 (by simpa [updB] using e) (by simpa [updB] using e'))
    f30 := fun e e' => (by simpa [updV, updB] using h.f30 (by simpa [updB] using e) (by simpa [updB] using e'))
    f31 := fun e => (by simpa [updV, updB] using h.f31 (by simpa [updB] using e))
    f33 := fun _ => ⟨g, by simp [updV], hb⟩
    f34 := fun e => (by simpa [updV, updB] using h.f34 (by simpa [updB] using e))
    f35 := fun e => (by simpa [updV, updB] using h.f35 (by simpa [updB] using e))
    f36 := fun e => (by simpa [updV, updB] using h.f36 (by simpa [updB] using e))
    f37 := fun e => absurd (h.m37 (by simpa [updB] using e)) (by rw [hL]; decide)
    m31 := fun e => (by have h9 := h.m31 (by simpa [updB] using e); simp [updB, h9.1, h9.2])
    m28 := fun e => (by have h9 := h.m28 (by simpa [updB] using e); simp [updB, h9])
    m10 := fun e => (by have h9 := h.m10 (by simpa [updB] using e); simp [updB, h9])
    m18 := fun e => (by have h9 := h.m18 (by simpa [updB] using e); simp [updB, h9])
    m26 := fun e => (by have h9 := h.m26 (by simpa [updB] using e); simp [updB, h9])
    m30 := fun e => (by have h9 := h.m30 (by simpa [updB] using e); simp [updB, h9])
    m33 := fun _ => (by simp [updB, hm])
    m34 := fun e => (by have h9 := h.m34 (by simpa [updB] using e); simp [updB, h9])
    m35 := fun e => (by have h9 := h.m35 (by simpa [updB] using e); simp [updB, h9])
    m36 := fun e => (by have h9 := h.m36 (by simpa [updB] using e); simp [updB, h9])
    m37 := fun e => (by have h9 := h.m37 (by simpa [updB] using e); simp [updB, h9]) }
theorem AI.p34 (h : AI w d p0 p1 pf base x0 x1 y0 y1 fd num many y2 L f W) (hm : L 4 = true) : AI w d p0 p1 pf base x0 x1 y0 y1 fd num many y2 (updB L 34) (updV f 16 (f 57)) W :=
  { k := h.k
    pre := fun j h1 h2 => (by simp [updB, h.pre j h1 h2])
    f4 := fun e => (by simpa [updV, updB] using h.f4 (by simpa [updB] using e))
    f7 := fun e => (by simpa [updV, updB] using h.f7 (by simpa [updB] using e))
    f10 := fun e => (by simpa [updV, updB] using h.f10 (by simpa [updB] using e))
    f11 := fun e => (by simpa [updV, updB] using h.f11 (by simpa [updB] using e))
    f18 := fun e => (by simpa [updV, updB] using h.f18 (by simpa [updB] using e))
    f23 := fun e => (by simpa [updV, updB] using h.f23 (by simpa [updB] using e))
    f26 := fun e e' => (by simpa [updV, updB] using h.f26 (by simpa [updB] using e) (by simpa [updB] using e'))
    f28 := fun e e' => (by simpa [updV, updB] using h.f28 (by simpa [updB] using e) (by simpa [updB] using e'))
    f30 := fun e e' => (by simpa [updV, updB] using h.f30 (by simpa [updB] using e) (by simpa [updB] using e'))
    f31 := fun e => (by simpa [updV, updB] using h.f31 (by simpa [updB] using e))
    f33 := fun e => (by simpa [updV, updB] using h.f33 (by simpa [updB] using e))
    f34 := fun _ => (by simp [updV])
    f35 := fun e => (by simpa [updV, updB] using h.f35 (by simpa [updB] using e))
    f36 := fun e => (by simpa [updV, updB] using h.f36 (by simpa [updB] using e))
    f37 := fun e => (by simpa [updV, updB] using h.f37 (by simpa [updB] using e))
    m31 := fun e => (by have h9 := h.m31 (by simpa [updB] using e); simp [updB, h9.1, h9.2])
    m28 := fun e => (by have h9 := h.m28 (by simpa [updB] using e); simp [updB, h9])
    m10 := fun e => (by have h9 := h.m10 (by simpa [updB] using e); simp [updB, h9])
    m18 := fun e => (by have h9 := h.m18 (by simpa [updB] using e); simp [updB, h9])
    m26 := fun e => (by have h9 := h.m26 (by simpa [updB] using e); simp [updB, h9])
    m30 := fun e => (by have h9 := h.m30 (by simpa [updB] using e); simp [updB, h9])
    m33 := fun e => (by have h9 := h.m33 (by simpa [updB] using e); simp [updB, h9])
    m34 := fun _ => (by simp [updB, hm])
    m35 := fun e => (by have h9 := h.m35 (by simpa [updB] using e); simp [updB, h9])
    m36 := fun e => (by have h9 := h.m36 (by simpa [updB] using e); simp [updB, h9])
    m37 := fun e => (by have h9 := h.m37 (by simpa [updB] using e); simp [updB, h9]) }
theorem AI.p35 (h : AI w d p0 p1 pf base x0 x1 y0 y1 fd num many y2 L f W) (hm : L 11 = true) : AI w d p0 p1 pf base x0 x1 y0 y1 fd num many y2 (updB L 35) (updV f 17 (f 64)) W :=
  { k := h.k
    pre := fun j h1 h2 => (by simp [updB, h.pre j h1 h2])
    f4 := fun e => (by simpa [updV, updB] using h.f4 (by simpa [updB] using e))
    f7 := fun e => (by simpa [updV, updB] using h.f7 (by simpa [updB] using e))
    f10 := fun e => (by simpa [updV, updB] using h.f10 (by simpa [updB] using e))
    f11 := fun e => (by simpa [updV, updB] using h.f11 (by simpa [updB] using e))
    f18 := fun e => (by simpa [updV, updB] using h.f18 (by simpa [updB] using e))
    f23 := fun e => (by simpa [updV, updB] using h.f23 (by simpa [updB] using e))
    f26 := fun e e' => (by simpa [updV, updB] using h.f26 (by simpa [updB] using e) (by simpa [updB] using e'))
    f28 := fun e e' => (by simpa [updV, updB] using h.f28 (by simpa [updB] using e) (by simpa [updB] using e'))
    f30 := fun e e' => (by simpa [updV, updB] using h.f30 (by simpa [updB] using e) (by simpa [updB] using e'))
    f31 := fun e => (by simpa [updV, updB] using h.f31 (by simpa [updB] using e))
    f33 := fun e => (by simpa [updV, updB] using h.f33 (by simpa [updB] using e))
    f34 := fun e => (by simpa [updV, updB] using h.f34 (by simpa [updB] using e))
    f35 := fun _ => (by simp [updV])
    f36 := fun e => (by simpa [updV, updB] using h.f36 (by simpa [updB] using e))
    f37 := fun e => (by simpa [updV, updB] using h.f37 (by simpa [updB] using e))
    m31 := fun e => (by have h9 := h.m31 (by simpa [updB] using e); simp [updB, h9.1, h9.2])
    m28 := fun e => (by have h9 := h.m28 (by simpa [updB] using e); simp [updB, h9])
    m10 := fun e => (by have h9 := h.m10 (by simpa [updB] using e); simp [updB, h9])
    m18 := fun e => (by have h9 := h.m18 (by simpa [updB] using e); simp [updB, h9])
    m26 := fun e => (by have h9 := h.m26 (by simpa [updB] using e); simp [updB, h9])
    m30 := fun e => (by have h9 := h.m30 (by simpa [updB] using e); simp [updB, h9])
    m33 := fun e => (by have h9 := h.m33 (by simpa [updB] using e); simp [updB, h9])
    m34 := fun e => (by have h9 := h.m34 (by simpa [updB] using e); simp [updB, h9])
    m35 := fun _ => (by simp [updB, hm])
    m36 := fun e => (by have h9 := h.m36 (by simpa [updB] using e); simp [updB, h9])
    m37 := fun e => (by have h9 := h.m37 (by simpa [updB] using e); simp [updB, h9]) }
theorem AI.p36 (h : AI w d p0 p1 pf base x0 x1 y0 y1 fd num many y2 L f W) (hm : L 23 = true) : AI w d p0 p1 pf base x0 x1 y0 y1 fd num many y2 (updB L 36) (updV f 18 (f 76)) W :=
  { k := h.k
    pre := fun j h1 h2 => (by simp [updB, h.pre j h1 h2])
    f4 := fun e => (by simpa [updV, updB] using h.f4 (by simpa [updB] using e))
    f7 := fun e => (by simpa [updV, updB] using h.f7 (by simpa [updB] using e))
    f10 := fun e => (by simpa [updV, updB] using h.f10 (by simpa [updB] using e))
    f11 := fun e => (by simpa [updV, updB] using h.f11 (by simpa [updB] using e))
    f18 := fun e => (by simpa [updV, updB] using h.f18 (by simpa [updB] using e))
    f23 := fun e => (by simpa [updV, updB] using h.f23 (by simpa [updB] using e))
    f26 := fun e e' => (by simpa [updV, updB] using h.f26 (by simpa [updB] using e) (by simpa [updB] using e'))
    f28 := fun e e' => (by simpa [updV, updB] using h.f28 (by simpa [updB] using e) (by simpa [updB] using e'))
    f30 := fun e e' => (by simpa [updV, updB] using h.f30 (by simpa [updB] using e) (by simpa [updB] using e'))
    f31 := fun e => (by simpa [updV, updB] using h.f31 (by simpa [updB] using e))
    f33 := fun e => (by simpa [updV, updB] using h.f33 (by simpa [updB] using e))
    f34 := fun e => (by simpa [updV, updB] using h.f34 (by simpa [updB] using e))
    f35 := fun e => (by simpa [updV, updB] using h.f35 (by simpa [updB] using e))
    f36 := fun _ => (by simp [updV])
    f37 := fun e => (by simpa [updV, updB] using h.f37 (by simpa [updB] using e))
    m31 := fun e => (by have h9 := h.m31 (by simpa [updB] using e); simp [updB, h9.1, h9.2])
    m28 := fun e => (by have h9 := h.m28 (by simpa [updB] using e); simp [updB, h9])
    m10 := fun e => (by have h9 := h.m10 (by simpa [updB] using e); simp [updB, h9])
    m18 := fun e => (by have h9 := h.m18 (by simpa [updB] using e); simp [updB, h9])
    m26 := fun e => (by have h9 := h.m26 (by simpa [updB] using e); simp [updB, h9])
    m30 := fun e => (by have h9 := h.m30 (by simpa [updB] using e); simp [updB, h9])
    m33 := fun e => (by have h9 := h.m33 (by simpa [updB] using e); simp [updB, h9])
    m34 := fun e => (by have h9 := h.m34 (by simpa [updB] using e); simp [updB, h9])
    m35 := fun e => (by have h9 := h.m35 (by simpa [updB] using e); simp [updB, h9])
    m36 := fun _ => (by simp [updB, hm])
    m37 := fun e => (by have h9 := h.m37 (by simpa [updB] using e); simp [updB, h9]) }
theorem AI.p37 (h : AI w d p0 p1 pf base x0 x1 y0 y1 fd num many y2 L f W) (hm : L 33 = true) : AI w d p0 p1 pf base x0 x1 y0 y1 fd num many y2 (updB L 37) (updV f 19 (f 86)) W :=
  { k := h.k
    pre := fun j h1 h2 => (by simp [updB, h.pre j h1 h2])
    f4 := fun e => (by simpa [updV, updB] using h.f4 (by simpa [updB] using e))
    f7 := fun e => (by simpa [updV, updB] using h.f7 (by simpa [updB] using e))
    f10 := fun e => (by simpa [updV, updB] using h.f10 (by simpa [updB] using e))
    f11 := fun e => (by simpa [updV, updB] using h.f11 (by simpa [updB] using e))
    f18 := fun e => (by simpa [updV, updB] using h.f18 (by simpa [updB] using e))
    f23 := fun e => (by simpa [updV, updB] using h.f23 (by simpa [updB] using e))
    f26 := fun e e' => (by simpa [updV, updB] using h.f26 (by simpa [updB] using e) (by simpa [updB] using e'))
    f28 := fun e e' => (by simpa [updV, updB] using h.f28 (by simpa [updB] using e) (by simpa [updB] using e'))
    f30 := fun e e' => (by simpa [updV, updB] using h.f30 (by simpa [updB] using e) (by simpa [updB] using e'))
    f31 := fun e => (by simpa [updV, updB] using h.f31 (by simpa [updB] using e))
    f33 := fun e => (by simpa [updV, updB] using h.f33 (by simpa [updB] using e))
    f34 := fun e => (by simpa [updV, updB] using h.f34 (by simpa [updB] using e))
    f35 := fun e => (by simpa [updV, updB] using h.f35 (by simpa [updB] using e))
    f36 := fun e => (by simpa [updV, updB] using h.f36 (by simpa [updB] using e))
    f37 := fun _ => (by simp [updV])
    m31 := fun e => (by have h9 := h.m31 (by simpa [updB] using e); simp [updB, h9.1, h9.2])
    m28 := fun e => (by have h9 := h.m28 (by simpa [updB] using e); simp [updB, h9])
    m10 := fun e => (by have h9 := h.m10 (by simpa [updB] using e); simp [updB, h9])
    m18 := fun e => (by have h9 := h.m18 (by simpa [updB] using e); simp [updB, h9])
    m26 := fun e => (by have h9 := h.m26 (by simpa [updB] using e); simp [updB, h9])
    m30 := fun e => (by have h9 := h.m30 (by simpa [updB] using e); simp [updB, h9])
    m33 := fun e => (by have h9 := h.m33 (by simpa [updB] using e); simp [updB, h9])
    m34 := fun e => (by have h9 := h.m34 (by simpa [updB] using e); simp [updB, h9])
    m35 := fun e => (by have h9 := h.m35 (by simpa [updB] using e); simp [updB, h9])
    m36 := fun e => (by have h9 := h.m36 (by simpa [updB] using e); simp [updB, h9])
    m37 := fun _ => (by simp [updB, hm]) }
theorem AI.p26 (h : AI w d p0 p1 pf base x0 x1 y0 y1 fd num many y2 L f W) {g : Nat} (hr : W.ownsRow base 78 3 (.slice (some ⟨g, 0, none⟩) 0 0) 0 []) (hg : L 30 = true → L 31 = false → ∀ g', f 83 = .slice (some ⟨g', 0, none⟩) 1 1 → g ≠ g') (h28 : L 28 = false) : AI w d p0 p1 pf base x0 x1 y0 y1 fd num many y2 (updB L 26) (updV f 79 (.slice (some ⟨g, 0, none⟩) 0 0)) W :=
  { k := h.k
    pre := fun j h1 h2 => (by simp [updB, h.pre j h1 h2])
    f4 := fun e => (by simpa [updV, updB] using h.f4 (by simpa [updB] using e))
    f7 := fun e => (by simpa [updV, updB] using h.f7 (by simpa [updB] using e))
    f10 := fun e => (by simpa [updV, updB] using h.f10 (by simpa [updB] using e))
    f11 := fun e => (by simpa [updV, updB] using h.f11 (by simpa [updB] using e))
    f18 := fun e => (by simpa [updV, updB] using h.f18 (by simpa [updB] using e))
    f23 := fun e => (by simpa [updV, updB] using h.f23 (by simpa [updB] using e))
    f26 := fun _ _ => ⟨g, by simp [updV], by simpa [updV] using hr⟩
    f28 := fun e e' => (by simpa [updV, updB] using h.f28 (by simpa [updB] using e) (by simpa [updB] using e'))
    f30 := fun e e' => (by
      obtain ⟨g', h1, h2, h3, h4⟩ := h.f30 (by simpa [updB] using e) (by simpa [updB] using e')
      have h5 := hg (by simpa [updB] using e) (by simpa [updB] using e') g' h1
      refine ⟨g', by simpa [updV] using h1, h2, fun _ _ => ?_, fun e9 => ?_⟩
      · simp [updV, Value.ownBlock]; exact h5
      · simp [updB, h28] at e9)
    f31 := fun e => (by simpa [updV, updB] using h.f31 (by simpa [updB] using e))
    f33 := fun e => (by simpa [updV, updB] using h.f33 (by simpa [updB] using e))
    f34 := fun e => (by simpa [updV, updB] using h.f34 (by simpa [updB] using e))
    f35 := fun e => (by simpa [updV, updB] using h.f35 (by simpa [updB] using e))
    f36 := fun e => (by simpa [updV, updB] using h.f36 (by simpa [updB] using e))
    f37 := fun e => (by simpa [updV, updB] using h.f37 (by simpa [updB] using e))
    m31 := fun e => (by have h9 := h.m31 (by simpa [updB] using e); simp [updB, h9.1, h9.2])
    m28 := fun e => (by have h9 := h.m28 (by simpa [updB] using e); simp [updB, h9])
    m10 := fun e => (by have h9 := h.m10 (by simpa [updB] using e); simp [updB, h9])
    m18 := fun e => (by have h9 := h.m18 (by simpa [updB] using e); simp [updB, h9])
    m26 := fun e => (by have h9 := h.m26 (by simpa [updB] using e); simp [updB, h9])
    m30 := fun e => (by have h9 := h.m30 (by simpa [updB] using e); simp [updB, h9])
    m33 := fun e => (by have h9 := h.m33 (by simpa [updB] using e); simp [updB, h9])
    m34 := fun e => (by have h9 := h.m34 (by simpa [updB] using e); simp [updB, h9])
    m35 := fun e => (by have h9 := h.m35 (by simpa [updB] using e); simp [updB, h9])
    m36 := fun e => (by have h9 := h.m36 (by simpa [updB] using e); simp [updB, h9])
    m37 := fun e => (by have h9 := h.m37 (by simpa [updB] using e); simp [updB, h9]) }
theorem AI.p30 (h : AI w d p0 p1 pf base x0 x1 y0 y1 fd num many y2 L f W) {g : Nat} (hb : Blk W g 78 #[.int .i64 fd.sa, .int .i64 fd.gr, .int .i64 fd.ce]) (h1 : L 26 = true → L 28 = false → (f 79).ownBlock ≠ some g) (h2 : L 28 = true → (f 81).ownBlock ≠ some g) : AI w d p0 p1 pf base x0 x1 y0 y1 fd num many y2 (updB L 30) (updV f 83 (.slice (some ⟨g, 0, none⟩) 1 1)) W :=
  { k := h.k
    pre := fun j h1 h2 => (by simp [updB, h.pre j h1 h2])
    f4 := fun e => (by simpa [updV, updB] using h.f4 (by simpa [updB] using e))
    f7 := fun e => (by simpa [updV, updB] using h.f7 (by simpa [updB] using e))
    f10 := fun e => (by simpa [updV, updB] using h.f10 (by simpa [updB] using e))
    f11 := fun e => (by simpa [updV, updB] using h.f11 (by simpa [updB] using e))
    f18 := fun e => (by simpa [updV, updB] using h.f18 (by simpa [updB] using e))
    f23 := fun e => (by simpa [updV, updB] using h.f23 (by simpa [updB] using e))
    f26 := fun e e' => (by simpa [updV, updB] using h.f26 (by simpa [updB] using e) (by simpa [updB] using e'))
    f28 := fun e e' => (by simpa [updV, updB] using h.f28 (by simpa [updB] using e) (by simpa [updB] using e'))
    f30 := fun _ _ => ⟨g, by simp [updV], hb, fun e e' => (by simpa [updV] using h1 (by simpa [updB] using e) (by simpa [updB] using e')), fun e => (by simpa [updV] using h2 (by simpa [updB] using e))⟩
    f31 := fun e => (by simpa [updV, updB] using h.f31 (by simpa [updB] using e))
    f33 := fun e => (by simpa [updV, updB] using h.f33 (by simpa [updB] using e))
    f34 := fun e => (by simpa [updV, updB] using h.f34 (by simpa [updB] using e))
    f35 := fun e => (by simpa [updV, updB] using h.f35 (by simpa [updB] using e))
    f36 := fun e => (by simpa [updV, updB] using h.f36 (by simpa [updB] using e))
    f37 := fun e => (by simpa [updV, updB] using h.f37 (by simpa [updB] using e))
    m31 := fun e => (by have h9 := h.m31 (by simpa [updB] using e); simp [updB, h9.1, h9.2])
    m28 := fun e => (by have h9 := h.m28 (by simpa [updB] using e); simp [updB, h9])
    m10 := fun e => (by have h9 := h.m10 (by simpa [updB] using e); simp [updB, h9])
    m18 := fun e => (by have h9 := h.m18 (by simpa [updB] using e); simp [updB, h9])
    m26 := fun e => (by have h9 := h.m26 (by simpa [updB] using e); simp [updB, h9])
    m30 := fun e => (by have h9 := h.m30 (by simpa [updB] using e); simp [updB, h9])
    m33 := fun e => (by have h9 := h.m33 (by simpa [updB] using e); simp [updB, h9])
    m34 := fun e => (by have h9 := h.m34 (by simpa [updB] using e); simp [updB, h9])
    m35 := fun e => (by have h9 := h.m35 (by simpa [updB] using e); simp [updB, h9])
    m36 := fun e => (by have h9 := h.m36 (by simpa [updB] using e); simp [updB, h9])
    m37 := fun e => (by have h9 := h.m37 (by simpa [updB] using e); simp [updB, h9]) }
theorem AI.p28 (h : AI w d p0 p1 pf base x0 x1 y0 y1 fd num many y2 L f W) (hL : L 28 = false) (h26 : L 26 = true) (h18 : L 18 = true) {v : Value} {A' : Option Addr} {c' : Nat} (hv : v = .slice A' y1.n c') (hr : W'.ownsRow base 78 3 v y1.n (y1.l.flatMap encF)) (hg : W.grownBy W' (f 79).ownBlock) (hat : v.ownBlock = (f 79).ownBlock ∨ v.ownBlock = some W.heap.size) : AI w d p0 p1 pf base x0 x1 y0 y1 fd num many y2 (updB L 28) (updV f 81 v) W' := by
  obtain ⟨g0, hf0, ho⟩ := h.f26 h26 hL
  have hk := Kee.app ho hg
  have h31 : L 31 = false := by
    cases e : L 31
    · rfl
    · have := (h.m31 e).1; rw [hL] at this; cases this
  have h33 : L 33 = false := by
    cases e : L 33
    · rfl
    · have := h.m33 e; rw [h31] at this; cases this
  exact
  { k := h.k.app ho hg
    pre := fun j h1 h2 => (by simp [updB, h.pre j h1 h2])
    f4 := fun e => (by obtain ⟨g, h1, h2⟩ := h.f4 (by simpa [updB] using e); exact ⟨g, by simpa [updV] using h1, hk _ _ _ (by decide) h2⟩)
    f7 := fun e => (by simpa [updV, updB] using h.f7 (by simpa [updB] using e))
    f10 := fun e => (by simpa [updV, updB] using h.f10 (by simpa [updB] using e))
    f11 := fun e => (by obtain ⟨g, v1, v2, h1, h2⟩ := h.f11 (by simpa [updB] using e); exact ⟨g, v1, v2, by simpa [updV] using h1, hk _ _ _ (by decide) h2⟩)
    f18 := fun e => (by simpa [updV, updB] using h.f18 (by simpa [updB] using e))
    f23 := fun e => (by obtain ⟨g, v, h1, h2⟩ := h.f23 (by simpa [updB] using e); exact ⟨g, v, by simpa [updV] using h1, hk _ _ _ (by decide) h2⟩)
    f26 := fun e e' => (by simp [updB] at e')
    f28 := fun e e' => ⟨A', c', by simpa [updV] using hv, by simpa [updV] using hr⟩
    f30 := fun e e' => (by
      obtain ⟨g, h1, h2, h3, h4⟩ := h.f30 (by simpa [updB] using e) h31
      have hne := h3 h26 hL
      refine ⟨g, by simpa [updV] using h1, h2.grown hg hne.symm, fun _ e9 => ?_, fun _ => ?_⟩
      · simp [updB] at e9
      · simp only [updV, if_pos]
        rcases hat with q | q
        · rw [q]; exact hne
        · rw [q]; intro e9; have := Option.some.inj e9; have := h2.lt; omega)
    f31 := fun e => (by rw [show updB L 28 31 = L 31 from rfl, h31] at e; cases e)
    f33 := fun e => (by rw [show updB L 28 33 = L 33 from rfl, h33] at e; cases e)
    f34 := fun e => (by simpa [updV, updB] using h.f34 (by simpa [updB] using e))
    f35 := fun e => (by simpa [updV, updB] using h.f35 (by simpa [updB] using e))
    f36 := fun e => (by simpa [updV, updB] using h.f36 (by simpa [updB] using e))
    f37 := fun e => (by simpa [updV, updB] using h.f37 (by simpa [updB] using e))
    m31 := fun e => (by rw [show updB L 28 31 = L 31 from rfl, h31] at e; cases e)
    m28 := fun _ => (by simp [updB, h18])
    m10 := fun e => (by have h9 := h.m10 (by simpa [updB] using e); simp [updB, h9])
    m18 := fun e => (by have h9 := h.m18 (by simpa [updB] using e); simp [updB, h9])
    m26 := fun _ => (by simp [updB, h26])
    m30 := fun e => (by have h9 := h.m30 (by simpa [updB] using e); simp [updB, h9])
    m33 := fun e => (by have h9 := h.m33 (by simpa [updB] using e); simp [updB, h9])
    m34 := fun e => (by have h9 := h.m34 (by simpa [updB] using e); simp [updB, h9])
    m35 := fun e => (by have h9 := h.m35 (by simpa [updB] using e); simp [updB, h9])
    m36 := fun e => (by have h9 := h.m36 (by simpa [updB] using e); simp [updB, h9])
    m37 := fun e => (by have h9 := h.m37 (by simpa [updB] using e); simp [updB, h9]) }
theorem AI.p31 (h : AI w d p0 p1 pf base x0 x1 y0 y1 fd num many y2 L f W) (hL : L 31 = false) (h28 : L 28 = true) (h30 : L 30 = true) {v : Value} {A' : Option Addr} {n' c' b' : Nat} (hv : v = .slice A' n' c') (hn' : n' ≤ 61) (hs : Sl encF 3 W' b' A' n' (y1.l ++ [fd])) (hb : b' ≠ d) (hg : W.grownBy W' (f 81).ownBlock) : AI w d p0 p1 pf base x0 x1 y0 y1 fd num many ⟨A', n', c', b', y1.l ++ [fd]⟩ (updB L 31) (updV f 84 v) W' := by
  obtain ⟨A1, c1, hf1, ho⟩ := h.f28 h28 hL
  have hk := Kee.app ho hg
  have h18 := h.m28 h28
  have h33 : L 33 = false := by
    cases e : L 33
    · rfl
    · have := h.m33 e; rw [hL] at this; cases this
  exact
  { k := h.k.app ho hg
    pre := fun j h1 h2 => (by simp [updB, h.pre j h1 h2])
    f4 := fun e => (by obtain ⟨g, h1, h2⟩ := h.f4 (by simpa [updB] using e); exact ⟨g, by simpa [updV] using h1, hk _ _ _ (by decide) h2⟩)
    f7 := fun e => (by simpa [updV, updB] using h.f7 (by simpa [updB] using e))
    f10 := fun e => (by simpa [updV, updB] using h.f10 (by simpa [updB] using e))
    f11 := fun e => (by obtain ⟨g, v1, v2, h1, h2⟩ := h.f11 (by simpa [updB] using e); exact ⟨g, v1, v2, by simpa [updV] using h1, hk _ _ _ (by decide) h2⟩)
    f18 := fun e => (by simpa [updV, updB] using h.f18 (by simpa [updB] using e))
    f23 := fun e => (by obtain ⟨g, v, h1, h2⟩ := h.f23 (by simpa [updB] using e); exact ⟨g, v, by simpa [updV] using h1, hk _ _ _ (by decide) h2⟩)
    f26 := fun e e' => (by rw [show updB L 31 28 = L 28 from rfl, h28] at e'; cases e')
    f28 := fun e e' => (by simp [updB] at e')
    f30 := fun e e' => (by simp [updB] at e')
    f31 := fun e => ⟨by simpa [updV] using hv, ⟨hs, fun _ => hb, hn'⟩, rfl⟩
    f33 := fun e => (by rw [show updB L 31 33 = L 33 from rfl, h33] at e; cases e)
    f34 := fun e => (by simpa [updV, updB] using h.f34 (by simpa [updB] using e))
    f35 := fun e => (by simpa [updV, updB] using h.f35 (by simpa [updB] using e))
    f36 := fun e => (by simpa [updV, updB] using h.f36 (by simpa [updB] using e))
    f37 := fun e => (by simpa [updV, updB] using h.f37 (by simpa [updB] using e))
    m31 := fun _ => ⟨by simp [updB, h28], by simp [updB, h18]⟩
    m28 := fun e => (by simp [updB, h18])
    m10 := fun e => (by have h9 := h.m10 (by simpa [updB] using e); simp [updB, h9])
    m18 := fun e => (by have h9 := h.m18 (by simpa [updB] using e); simp [updB, h9])
    m26 := fun e => (by have h9 := h.m26 (by simpa [updB] using e); simp [updB, h9])
    m30 := fun _ => (by simp [updB, h30])
    m33 := fun e => (by simp [updB])
    m34 := fun e => (by have h9 := h.m34 (by simpa [updB] using e); simp [updB, h9])
    m35 := fun e => (by have h9 := h.m35 (by simpa [updB] using e); simp [updB, h9])
    m36 := fun e => (by have h9 := h.m36 (by simpa [updB] using e); simp [updB, h9])
    m37 := fun e => (by have h9 := h.m37 (by simpa [updB] using e); simp [updB, h9]) }
end
end Go.Proofs.Ytkcdknjgjidnnaa
