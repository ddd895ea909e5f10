/-
  Cellars, lots, ice and loss, in plain words.
-/
import Derived.Test.YtmoolcpogilgkaaPure
set_option linter.unusedVariables false
set_option linter.unusedSimpArgs false
namespace Go.Proofs.Ytmoolcpogilgkaa

structure BoxT where
  room : Int
  ilo : Int
  ihi : Int
  mlo : Int
  mhi : Int
  clo : Int
  chi : Int
  wlo : Int
  whi : Int
  deriving DecidableEq, Inhabited
structure FilT where
  box : Int
  hour : Int
  grams : Int
  deriving DecidableEq, Inhabited
structure RateT where
  above : Int
  loss : Int
  deriving DecidableEq, Inhabited
structure StayT where
  box : Int
  fr : Int
  to : Int
  deriving DecidableEq, Inhabited
structure CelT where
  hlo : Int
  hhi : Int
  boxes : List BoxT
  fils : List FilT
  rates : List RateT
  deriving DecidableEq, Inhabited
structure LotT where
  born : Int
  keeps : Int
  stays : List StayT
  deriving DecidableEq, Inhabited

/-! ice -/
def putI (room g : Int) (p : Int × Int) : Int × Int := (min room (p.1 + g), min room (p.2 + g))
def fillI (room box hour : Int) : List FilT → Int × Int → Int × Int
  | [], p => p
  | f :: r, p => fillI room box hour r (if f.box = box ∧ f.hour = hour then putI room f.grams p else p)
def meltI (b : BoxT) (p : Int × Int) : Int × Int := (max 0 (p.1 - b.mhi), max 0 (p.2 - b.mlo))
/-- the ice in a box as an hour begins, ahead of its fillings -/
def iceS (b : BoxT) (box : Int) (fs : List FilT) : Nat → Int × Int
  | 0 => (b.ilo, b.ihi)
  | h + 1 => meltI b (fillI b.room box h fs (iceS b box fs h))
/-- the ice in a box in an hour -/
def iceA (b : BoxT) (box : Int) (fs : List FilT) (h : Nat) : Int × Int := fillI b.room box h fs (iceS b box fs h)
theorem iceS_next (b : BoxT) (box : Int) (fs : List FilT) (h : Nat) : iceS b box fs (h + 1) = meltI b (iceA b box fs h) := rfl
/-- 1 sure, 2 never, 3 open -/
def verd (all some : Bool) : Int := if all then 1 else if some then 3 else 2
def coldV (p : Int × Int) : Int := verd (decide (0 < p.1)) (decide (0 < p.2))

theorem fillI_snoc (room box hour : Int) : ∀ (l : List FilT) (f : FilT) (p : Int × Int), fillI room box hour (l ++ [f]) p = if f.box = box ∧ f.hour = hour then putI room f.grams (fillI room box hour l p) else fillI room box hour l p
  | [], f, p => rfl
  | g :: r, f, p => by rw [List.cons_append, fillI, fillI_snoc]; rfl
theorem fillI_take (room box hour : Int) (l : List FilT) (k : Nat) (hk : k < l.length) (p : Int × Int) : fillI room box hour (l.take (k + 1)) p = if l[k].box = box ∧ l[k].hour = hour then putI room l[k].grams (fillI room box hour (l.take k) p) else fillI room box hour (l.take k) p := by
  rw [List.take_succ_eq_append_getElem hk, fillI_snoc]

/-! what may be -/
structure BoxOk (b : BoxT) : Prop where
  r : 0 ≤ b.room ∧ b.room ≤ 100000
  i : 0 ≤ b.ilo ∧ b.ilo ≤ b.ihi ∧ b.ihi ≤ b.room
  m : 0 ≤ b.mlo ∧ b.mlo ≤ b.mhi ∧ b.mhi ≤ 100000
  c : -300 ≤ b.clo ∧ b.clo ≤ b.chi ∧ b.chi ≤ 400
  w : -300 ≤ b.wlo ∧ b.wlo ≤ b.whi ∧ b.whi ≤ 400
  cw : b.chi ≤ b.wlo
structure FilOk (n : Nat) (f : FilT) : Prop where
  b : 0 ≤ f.box ∧ f.box < n
  h : 0 ≤ f.hour ∧ f.hour ≤ 239
  g : 0 ≤ f.grams ∧ f.grams ≤ 100000
structure RateOk (r : RateT) : Prop where
  a : -300 ≤ r.above ∧ r.above ≤ 400
  l : 0 ≤ r.loss ∧ r.loss ≤ 1000
structure CelOk (c : CelT) : Prop where
  hall : -300 ≤ c.hlo ∧ c.hlo ≤ c.hhi ∧ c.hhi ≤ 400
  bn : c.boxes.length ≤ 6
  bs : ∀ b ∈ c.boxes, BoxOk b
  fn : c.fils.length ≤ 20
  fs : ∀ f ∈ c.fils, FilOk c.boxes.length f
  fo : ∀ k, (h : k + 1 < c.fils.length) → c.fils[k].hour ≤ c.fils[k + 1].hour
  rn : 1 ≤ c.rates.length ∧ c.rates.length ≤ 6
  rs : ∀ r ∈ c.rates, RateOk r
  ro : ∀ k, (h : k + 1 < c.rates.length) → c.rates[k].above < c.rates[k + 1].above ∧ c.rates[k].loss ≤ c.rates[k + 1].loss
structure StayOk (n : Nat) (s : StayT) : Prop where
  b : 0 ≤ s.box ∧ s.box < n
  f : 0 ≤ s.fr ∧ s.fr < s.to
  t : s.to ≤ 240
structure LotOk (n : Nat) (l : LotT) : Prop where
  born : 0 ≤ l.born ∧ l.born ≤ 239
  keeps : 0 ≤ l.keeps ∧ l.keeps ≤ 100000
  sn : l.stays.length ≤ 8
  ss : ∀ s ∈ l.stays, StayOk n s
  s0 : ∀ h : 0 < l.stays.length, l.born ≤ l.stays[0].fr
  so : ∀ k, (h : k + 1 < l.stays.length) → l.stays[k].to ≤ l.stays[k + 1].fr

theorem putI_bd {b : BoxT} (h : BoxOk b) {g : Int} (hg : 0 ≤ g ∧ g ≤ 100000) {p : Int × Int} (h1 : 0 ≤ p.1 ∧ p.1 ≤ b.room) (h2 : 0 ≤ p.2 ∧ p.2 ≤ b.room) : (0 ≤ (putI b.room g p).1 ∧ (putI b.room g p).1 ≤ b.room) ∧ (0 ≤ (putI b.room g p).2 ∧ (putI b.room g p).2 ≤ b.room) := by
  have := h.r
  unfold putI
  simp only
  omega
theorem fillI_bd {b : BoxT} (h : BoxOk b) {n : Nat} (box hour : Int) : ∀ (l : List FilT), (∀ f ∈ l, FilOk n f) → ∀ (p : Int × Int), (0 ≤ p.1 ∧ p.1 ≤ b.room) ∧ (0 ≤ p.2 ∧ p.2 ≤ b.room) → (0 ≤ (fillI b.room box hour l p).1 ∧ (fillI b.room box hour l p).1 ≤ b.room) ∧ (0 ≤ (fillI b.room box hour l p).2 ∧ (fillI b.room box hour l p).2 ≤ b.room)
  | [], _, p, hp => hp
  | f :: r, hl, p, hp => by
    rw [fillI]
    refine fillI_bd h box hour r (fun x hx => hl x (List.mem_cons_of_mem _ hx)) _ ?_
    split
    · exact putI_bd h (hl f List.mem_cons_self).g hp.1 hp.2
    · exact hp
theorem iceS_bd {b : BoxT} (h : BoxOk b) {n : Nat} (box : Int) {fs : List FilT} (hf : ∀ f ∈ fs, FilOk n f) : ∀ k, (0 ≤ (iceS b box fs k).1 ∧ (iceS b box fs k).1 ≤ b.room) ∧ (0 ≤ (iceS b box fs k).2 ∧ (iceS b box fs k).2 ≤ b.room)
  | 0 => by
    have := h.i
    simp only [iceS]
    omega
  | k + 1 => by
    have h1 := fillI_bd h box k fs hf _ (iceS_bd h box hf k)
    have h2 := h.m
    simp only [iceS, meltI]
    omega
theorem iceA_bd {b : BoxT} (h : BoxOk b) {n : Nat} (box : Int) {fs : List FilT} (hf : ∀ f ∈ fs, FilOk n f) (k : Nat) : (0 ≤ (iceA b box fs k).1 ∧ (iceA b box fs k).1 ≤ b.room) ∧ (0 ≤ (iceA b box fs k).2 ∧ (iceA b box fs k).2 ≤ b.room) := fillI_bd h box k fs hf _ (iceS_bd h box hf k)

/-! loss -/
def lossF (w : Int) : List RateT → Int → Int
  | [], n => n
  | r :: l, n => if w < r.above then n else lossF w l r.loss
def lossT (l : List RateT) (w : Int) : Int := lossF w l 0
def boxAt (c : CelT) (k : Int) : BoxT := c.boxes.getD k.toNat default
def airB (b : BoxT) (v : Int) : Span := if v = 1 then ⟨b.clo, b.chi⟩ else if v = 2 then ⟨b.wlo, b.whi⟩ else ⟨b.clo, b.whi⟩
def airF (c : CelT) (hour : Int) : List StayT → Span
  | [] => ⟨c.hlo, c.hhi⟩
  | s :: l => if s.fr ≤ hour ∧ hour < s.to then airB (boxAt c s.box) (coldV (iceA (boxAt c s.box) s.box c.fils hour.toNat)) else airF c hour l
def airT (c : CelT) (l : LotT) (hour : Int) : Span := airF c hour l.stays
def stepL (c : CelT) (a : Span) (p : Span) : Span := ⟨p.lo + lossT c.rates a.lo, p.hi + lossT c.rates a.hi⟩
/-- what a lot may have lost so many hours after it came -/
def lostT (c : CelT) (l : LotT) : Nat → Span
  | 0 => ⟨0, 0⟩
  | k + 1 => stepL c (airT c l (l.born + k)) (lostT c l k)
def hoursL (l : LotT) : Nat := 240 - l.born.toNat
def lostL (c : CelT) (l : LotT) : List Span := (List.range (hoursL l + 1)).map (lostT c l)
def freshV (keeps : Int) (x : Span) : Int := verd (decide (x.hi ≤ keeps)) (decide (x.lo ≤ keeps))
/-- the last hour at which a lot surely is fresh: the last place of a list that suits -/
def lastF (keeps born : Int) : List Span → Nat → Int → Int
  | [], _, n => n
  | x :: l, k, n => lastF keeps born l (k + 1) (if x.hi ≤ keeps then born + k else n)
def lastT (c : CelT) (l : LotT) : Int := lastF l.keeps l.born (lostL c l) 0 l.born
theorem lossF_bd {w : Int} : ∀ (l : List RateT) (n : Int), (∀ r ∈ l, RateOk r) → 0 ≤ n ∧ n ≤ 1000 → 0 ≤ lossF w l n ∧ lossF w l n ≤ 1000
  | [], n, _, hn => hn
  | r :: l, n, h, hn => by
    rw [lossF]
    split
    · exact hn
    · exact lossF_bd l r.loss (fun x hx => h x (List.mem_cons_of_mem _ hx)) (h r List.mem_cons_self).l
theorem lossT_bd {l : List RateT} (h : ∀ r ∈ l, RateOk r) (w : Int) : 0 ≤ lossT l w ∧ lossT l w ≤ 1000 := lossF_bd l 0 h (by omega)
theorem lostT_bd {c : CelT} (hc : CelOk c) (l : LotT) : ∀ k, (0 ≤ (lostT c l k).lo ∧ (lostT c l k).lo ≤ 1000 * k) ∧ (0 ≤ (lostT c l k).hi ∧ (lostT c l k).hi ≤ 1000 * k)
  | 0 => by simp [lostT]
  | k + 1 => by
    have h1 := lostT_bd hc l k
    have h2 := lossT_bd hc.rs (airT c l (l.born + k)).lo
    have h3 := lossT_bd hc.rs (airT c l (l.born + k)).hi
    simp only [lostT, stepL]
    omega
theorem lostT_up {c : CelT} (hc : CelOk c) (l : LotT) (a : Nat) : ∀ d, (lostT c l a).hi ≤ (lostT c l (a + d)).hi
  | 0 => Int.le_refl _
  | d + 1 => by
    have h1 := lostT_up hc l a d
    have h3 := lossT_bd hc.rs (airT c l (l.born + ((a + d : Nat) : Int))).hi
    rw [← Nat.add_assoc]
    simp only [lostT, stepL]
    omega
theorem lastF_or (keeps born : Int) : ∀ (l : List Span) (k : Nat) (n : Int), lastF keeps born l k n = n ∨ ∃ j, ∃ h : j < l.length, l[j].hi ≤ keeps ∧ lastF keeps born l k n = born + (k + j : Nat)
  | [], k, n => .inl rfl
  | x :: l, k, n => by
    rw [lastF]
    rcases lastF_or keeps born l (k + 1) (if x.hi ≤ keeps then born + k else n) with h | ⟨j, hj, h1, h2⟩
    · rw [h]
      by_cases hx : x.hi ≤ keeps
      · rw [if_pos hx]
        exact .inr ⟨0, by simp, by simpa using hx, by simp⟩
      · rw [if_neg hx]
        exact .inl rfl
    · refine .inr ⟨j + 1, by simpa using hj, by simpa using h1, ?_⟩
      rw [h2]
      omega
theorem lastF_snoc (keeps born : Int) : ∀ (l : List Span) (x : Span) (k : Nat) (n : Int), lastF keeps born (l ++ [x]) k n = if x.hi ≤ keeps then born + ((k + l.length : Nat) : Int) else lastF keeps born l k n
  | [], x, k, n => by simp [lastF]
  | y :: l, x, k, n => by
    rw [List.cons_append, lastF, lastF_snoc, lastF, List.length_cons, show k + 1 + l.length = k + (l.length + 1) by omega]
theorem lostL_len (c : CelT) (l : LotT) : (lostL c l).length = hoursL l + 1 := by simp [lostL]
theorem lostL_get (c : CelT) (l : LotT) {k : Nat} (hk : k < (lostL c l).length) : (lostL c l)[k] = lostT c l k := by simp [lostL]
/-- up to its last hour a lot surely is fresh -/
theorem last_fresh {c : CelT} (hc : CelOk c) {l : LotT} (hl : LotOk c.boxes.length l) : l.born ≤ lastT c l ∧ lastT c l ≤ 240 ∧ ∀ k : Nat, l.born + k ≤ lastT c l → (lostT c l k).hi ≤ l.keeps := by
  have hb := hl.born
  have hk := hl.keeps
  rcases lastF_or l.keeps l.born (lostL c l) 0 l.born with h | ⟨j, hj, h1, h2⟩
  · unfold lastT
    rw [h]
    refine ⟨Int.le_refl _, by omega, fun k hk2 => ?_⟩
    obtain rfl : k = 0 := by omega
    simp only [lostT]
    omega
  · unfold lastT
    rw [h2]
    rw [lostL_get] at h1
    rw [lostL_len] at hj
    unfold hoursL at hj
    refine ⟨by omega, by omega, fun k hk2 => ?_⟩
    have := lostT_up hc l k (j - k)
    rw [show k + (j - k) = j by omega] at this
    omega
end Go.Proofs.Ytmoolcpogilgkaa
