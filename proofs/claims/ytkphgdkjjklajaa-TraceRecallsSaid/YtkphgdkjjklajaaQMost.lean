/-
  The net of the document's answer, in plain words: its nodes, its edges one by one, and what has flowed when no more can. The reference's most: how much of some origins a batch may have at most, or a move may take.
-/
import Derived.Test.YtkphgdkjjklajaaTrMat
import Derived.Test.YtkphgdkjjklajaaQPush
import Derived.Test.YtkphgdkjjklajaaTrRef
set_option linter.unusedVariables false
set_option linter.unusedSimpArgs false
namespace Go.Proofs.Ytkphgdkjjklajaa

/-- the node of a moment of a batch -/
def ndR (T : Nat) (b t : Int) : Int := 1 + b * ((T + 1 : Nat) : Int) + t
def szR (n T : Nat) : Nat := n * (T + 1) + 2
def zR (n T : Nat) : Int := ((szR n T - 1 : Nat) : Int)
def decR (n T : Nat) (v : Int) : Option (Int × Nat) := if 1 ≤ v ∧ v < zR n T then some ((((v.toNat - 1) / (T + 1) : Nat) : Int), (v.toNat - 1) % (T + 1)) else none
theorem ndR_nat (T b t : Nat) : ndR T b t = ((1 + b * (T + 1) + t : Nat) : Int) := by
  unfold ndR; simp
theorem zR_eq (n T : Nat) : zR n T = ((n * (T + 1) + 1 : Nat) : Int) := rfl
theorem ndR_in {n T : Nat} {b : Int} {t : Nat} (h0 : 0 ≤ b) (h1 : b < n) (ht : t ≤ T) : 1 ≤ ndR T b t ∧ ndR T b t < zR n T := by
  obtain ⟨k, rfl⟩ := Int.eq_ofNat_of_zero_le h0
  rw [ndR_nat, zR_eq]
  have h2 : (k + 1) * (T + 1) ≤ n * (T + 1) := Nat.mul_le_mul_right _ (by omega)
  rw [Nat.add_mul] at h2
  omega
theorem decR_nd {n T : Nat} (b : Int) (t : Nat) (h0 : 0 ≤ b) (h1 : b < n) (ht : t ≤ T) : decR n T (ndR T b t) = some (b, t) := by
  unfold decR
  rw [if_pos (ndR_in h0 h1 ht)]
  obtain ⟨k, rfl⟩ := Int.eq_ofNat_of_zero_le h0
  rw [ndR_nat, Int.toNat_natCast, show 1 + k * (T + 1) + t - 1 = k * (T + 1) + t by omega]
  have e1 : (k * (T + 1) + t) / (T + 1) = k := by
    rw [Nat.mul_comm, Nat.mul_add_div (by omega), Nat.div_eq_of_lt (by omega)]; omega
  have e2 : (k * (T + 1) + t) % (T + 1) = t := by
    rw [Nat.mul_comm, Nat.mul_add_mod, Nat.mod_eq_of_lt (by omega)]
  rw [e1, e2]
theorem ndR_inj {n T : Nat} {b b' : Int} {t t' : Nat} (h0 : 0 ≤ b) (h1 : b < n) (ht : t ≤ T) (h0' : 0 ≤ b') (h1' : b' < n) (ht' : t' ≤ T) (e : ndR T b t = ndR T b' t') : b = b' ∧ t = t' := by
  have h := decR_nd b t h0 h1 ht
  rw [e, decR_nd b' t' h0' h1' ht'] at h
  injection h with h
  injection h with ha hb
  exact ⟨ha.symm, hb.symm⟩
theorem decR_src (n T : Nat) : decR n T 0 = none := if_neg fun h => by omega
theorem zR_ne {n T : Nat} {b : Int} {t : Nat} (h0 : 0 ≤ b) (h1 : b < n) (ht : t ≤ T) : ndR T b t ≠ zR n T := by have := ndR_in h0 h1 ht; omega

abbrev EdI := Int × Int × Int
/-- an edge that may be -/
structure EdR (n T : Nat) (e : EdI) : Prop where
  u : e.1 ∈ rg (szR n T)
  v : e.2.1 ∈ rg (szR n T)
  g0 : 0 ≤ e.2.2
  g1 : e.2.2 ≤ 8000000
theorem mem_szR {n T : Nat} {v : Int} (h0 : 0 ≤ v) (h1 : v ≤ zR n T) : v ∈ rg (szR n T) := by
  rw [zR_eq] at h1
  refine mem_rg.2 ⟨h0, ?_⟩
  unfold szR; omega
theorem nd_mem {n T : Nat} {b : Int} {t : Nat} (h0 : 0 ≤ b) (h1 : b < n) (ht : t ≤ T) : ndR T b t ∈ rg (szR n T) := by
  have := ndR_in h0 h1 ht
  exact mem_szR (by omega) (by omega)
theorem z_mem (n T : Nat) : zR n T ∈ rg (szR n T) := mem_szR (by rw [zR_eq]; omega) (Int.le_refl _)
theorem src_mem (n T : Nat) : (0 : Int) ∈ rg (szR n T) := mem_szR (Int.le_refl _) (by rw [zR_eq]; omega)

theorem eRef_ok {n T : Nat} {bs : List Int} {ms : List Mv} (hN : NetIn bs ms) (hn : n = bs.length) (mv : Int) (hT : ms.length ≤ T) : ∀ (k : List Mv) (pre : List Mv), ms = pre ++ k → ∀ e ∈ eRef (ndR T) n (zR n T) mv (hasAt (bsF bs) pre) pre.length k,
    EdR n T e ∧ ∃ (b : Int) (t : Nat), 0 ≤ b ∧ b < n ∧ t < ms.length ∧ pre.length ≤ t ∧ e.1 = ndR T b t
  | [], _, _, e, he => by cases he
  | m :: k, pre, hp, e, he => by
    subst hn
    have hlen : ms.length = pre.length + (k.length + 1) := by rw [hp, List.length_append, List.length_cons]
    have hok := hN.ms
    rw [hp] at hok
    obtain ⟨ok1, ok2, ok3⟩ := OkMs.append.1 hok
    have hh := ok1.nonneg hN.pos
    have hsum := sm_hasAt ok1
    have hs8 := hN.sum
    simp only [eRef] at he
    rcases List.mem_append.1 he with he | he
    · obtain ⟨b, hb, rfl⟩ := List.mem_map.1 he
      have hb2 := mem_rg.1 hb
      have h1 := sm_ge_one (fun x _ => hh x) hb
      have h2 := ok2.g1
      have h3 := ok2.g0
      refine ⟨⟨nd_mem hb2.1 hb2.2 (by omega), nd_mem hb2.1 hb2.2 (by omega), ?_, ?_⟩, b, pre.length, hb2.1, hb2.2, by omega, Nat.le_refl _, rfl⟩
      · have := hh b
        show 0 ≤ stay _ m b
        unfold stay
        by_cases e : b = m.fr
        · subst e; rw [if_pos rfl]; omega
        · rw [if_neg e]; omega
      · have := hh b
        show stay _ m b ≤ _
        unfold stay
        split <;> omega
    · rcases List.mem_cons.1 he with rfl | he
      · have h2 := ok2.g1
        have h3 := ok2.g0
        have h1 := sm_ge_one (fun x _ => hh x) (mem_rg.2 ⟨ok2.f0, ok2.f1⟩)
        refine ⟨⟨nd_mem ok2.f0 ok2.f1 (by omega), ?_, ?_, ?_⟩, m.fr, pre.length, ok2.f0, ok2.f1, by omega, Nat.le_refl _, rfl⟩
        · show (if _ then _ else _) ∈ _
          split
          · exact z_mem _ _
          · exact nd_mem ok2.t0 ok2.t1 (by omega)
        · show 0 ≤ m.g; omega
        · show m.g ≤ _; omega
      · have h1 := eRef_ok hN rfl mv hT k (pre ++ [m]) (by rw [hp]; simp) e (by
          rw [hasAt_append, List.length_append]; exact he)
        obtain ⟨h2, b, t, h3, h4, h5, h6, h7⟩ := h1
        rw [List.length_append] at h6
        exact ⟨h2, b, t, h3, h4, h5, by simp at h6; omega, h7⟩
theorem eRef_take_ok {bs : List Int} {ms : List Mv} (hN : NetIn bs ms) (mv : Int) (i : Nat) (hi : i ≤ ms.length) : ∀ e ∈ eRef (ndR ms.length) bs.length (zR bs.length ms.length) mv (bsF bs) 0 (ms.take i),
    EdR bs.length ms.length e ∧ ∃ (b : Int) (t : Nat), 0 ≤ b ∧ b < bs.length ∧ t < i ∧ e.1 = ndR ms.length b t := fun e he => by
  obtain ⟨h1, b, t, h2, h3, h4, _, h5⟩ := eRef_ok (n := bs.length) (T := ms.length) (hN.take i) rfl mv (by rw [List.length_take]; omega) (ms.take i) [] rfl e he
  rw [List.length_take] at h4
  exact ⟨h1, b, t, h2, h3, by omega, h5⟩

/-- the edges: those of the origins; those of the first i moves; those within batches k of the next one -/
def edR (bs : List Int) (ms : List Mv) (l : List Int) (mv : Int) (i : Nat) : List EdI := eSrc 0 (ndR ms.length) (bsF bs) l ++ eRef (ndR ms.length) bs.length (zR bs.length ms.length) mv (bsF bs) 0 (ms.take i)
def staysR (bs : List Int) (ms : List Mv) (i : Nat) (m : Mv) (k : Nat) : List EdI := (rg k).map fun b => (ndR ms.length b i, ndR ms.length b (i + 1 : Nat), stay (hasAt (bsF bs) (ms.take i)) m b)
def toR (bs : List Int) (ms : List Mv) (mv : Int) (i : Nat) (m : Mv) : Int := if (i : Int) = mv then zR bs.length ms.length else ndR ms.length m.to (i + 1 : Nat)
theorem edR_step (bs : List Int) (ms : List Mv) (l : List Int) (mv : Int) {i : Nat} (hi : i < ms.length) :
    edR bs ms l mv (i + 1) = (edR bs ms l mv i ++ staysR bs ms i ms[i] bs.length) ++ [(ndR ms.length ms[i].fr i, toR bs ms mv i ms[i], ms[i].g)] := by
  unfold edR staysR toR
  rw [List.take_succ_eq_append_getElem hi, eRef_append]
  simp only [eRef, Nat.zero_add, List.length_take, Nat.min_eq_left (Nat.le_of_lt hi), List.append_assoc]
theorem staysR_snoc (bs : List Int) (ms : List Mv) (i : Nat) (m : Mv) (k : Nat) : staysR bs ms i m (k + 1) = staysR bs ms i m k ++ [(ndR ms.length k i, ndR ms.length k (i + 1 : Nat), stay (hasAt (bsF bs) (ms.take i)) m k)] := by
  unfold staysR rg; rw [List.range_succ, List.map_append, List.map_append]; rfl
theorem eSrcR_snoc (T : Nat) (bs : Int → Int) (l : List Int) (k : Nat) (hk : k < l.length) : eSrc (0 : Int) (ndR T) bs (l.take (k + 1)) = eSrc (0 : Int) (ndR T) bs (l.take k) ++ [((0 : Int), ndR T l[k] 0, bs l[k])] := by
  unfold eSrc; rw [List.take_succ_eq_append_getElem hk, List.map_append]; rfl
section
variable {bs : List Int} {ms : List Mv} {l : List Int} {mv : Int} {i k : Nat}
theorem src_fresh (hl : ∀ o ∈ l, 0 ≤ o ∧ o < bs.length) (hn : l.Nodup) (hk : k < l.length) : ∀ e ∈ eSrc (0 : Int) (ndR ms.length) (bsF bs) (l.take k), ¬ (e.1 = 0 ∧ e.2.1 = ndR ms.length l[k] 0) := fun e he ⟨_, h2⟩ => by
  obtain ⟨o, ho, rfl⟩ := List.mem_map.1 he
  obtain ⟨j, hj, rfl⟩ := List.getElem_of_mem ho
  rw [List.length_take] at hj
  rw [List.getElem_take] at h2
  have a1 := hl _ (List.getElem_mem (show j < l.length by omega))
  have a2 := hl _ (List.getElem_mem hk)
  have h3 := (ndR_inj (t := 0) (t' := 0) a1.1 a1.2 (Nat.zero_le _) a2.1 a2.2 (Nat.zero_le _) h2).1
  have := (List.getElem_inj hn).1 h3
  omega
theorem edR_src (hN : NetIn bs ms) (hi : i ≤ ms.length) {b : Int} (h0 : 0 ≤ b) (h1 : b < bs.length) : ∀ e ∈ edR bs ms l mv i, e.1 ≠ ndR ms.length b i := fun e he h => by
  rcases List.mem_append.1 he with he | he
  · obtain ⟨o, ho, rfl⟩ := List.mem_map.1 he
    have := ndR_in (T := ms.length) (t := i) h0 h1 hi
    simp only at h
    omega
  · obtain ⟨_, b', t, a1, a2, a3, a4⟩ := eRef_take_ok hN mv i hi e he
    rw [a4] at h
    have := (ndR_inj a1 a2 (by omega) h0 h1 hi h).2
    omega
theorem stay_fresh (hN : NetIn bs ms) (hi : i < ms.length) (m : Mv) (hk : k < bs.length) : ∀ e ∈ edR bs ms l mv i ++ staysR bs ms i m k, ¬ (e.1 = ndR ms.length k i ∧ e.2.1 = ndR ms.length k (i + 1 : Nat)) := fun e he ⟨h, _⟩ => by
  rcases List.mem_append.1 he with he | he
  · exact edR_src hN (by omega) (by omega) (by omega) e he h
  · obtain ⟨b, hb, rfl⟩ := List.mem_map.1 he
    have hb2 := mem_rg.1 hb
    have := (ndR_inj (n := bs.length) hb2.1 (by omega) (by omega) (by omega) (by omega) (by omega) h).1
    omega
theorem move_fresh (hN : NetIn bs ms) (hi : i < ms.length) (m : Mv) (hm : 0 ≤ m.fr ∧ m.fr < bs.length ∧ 0 ≤ m.to ∧ m.to < bs.length ∧ m.fr ≠ m.to) : ∀ e ∈ edR bs ms l mv i ++ staysR bs ms i m bs.length, ¬ (e.1 = ndR ms.length m.fr i ∧ e.2.1 = toR bs ms mv i m) := fun e he ⟨h, h'⟩ => by
  obtain ⟨f0, f1, t0, t1, hne⟩ := hm
  rcases List.mem_append.1 he with he | he
  · exact edR_src hN (by omega) f0 f1 e he h
  · obtain ⟨b, hb, rfl⟩ := List.mem_map.1 he
    have hb2 := mem_rg.1 hb
    have e1 := (ndR_inj (n := bs.length) hb2.1 hb2.2 (by omega) f0 f1 (by omega) h).1
    simp only [toR] at h'
    split at h'
    · exact zR_ne hb2.1 hb2.2 (by omega) h'
    · have e2 := (ndR_inj (n := bs.length) hb2.1 hb2.2 (by omega) t0 t1 (by omega) h').1
      exact hne (e1.symm.trans e2)
theorem last_fresh (hN : NetIn bs ms) {b : Int} (h0 : 0 ≤ b) (h1 : b < bs.length) : ∀ e ∈ edR bs ms l mv ms.length, ¬ (e.1 = ndR ms.length b ms.length ∧ e.2.1 = zR bs.length ms.length) := fun e he ⟨h, _⟩ =>
  edR_src hN (Nat.le_refl _) h0 h1 e he h
theorem edR_ok (hN : NetIn bs ms) (hl : ∀ o ∈ l, 0 ≤ o ∧ o < bs.length) (hi : i ≤ ms.length) : ∀ e ∈ edR bs ms l mv i, EdR bs.length ms.length e := fun e he => by
  rcases List.mem_append.1 he with he | he
  · obtain ⟨o, ho, rfl⟩ := List.mem_map.1 he
    have h1 := hl o ho
    have h2 := bsF_in hN.gr o
    exact ⟨src_mem _ _, nd_mem (t := 0) h1.1 h1.2 (Nat.zero_le _), h2.1, by show bsF bs o ≤ _; omega⟩
  · exact (eRef_take_ok hN mv i hi e he).1
theorem eRef_len (nd : Int → Int → Int) (n : Nat) (z mv : Int) (a : Int → Int) (t : Nat) (l : List Mv) : (eRef nd n z mv a t l).length = l.length * (n + 1) := by
  induction l generalizing a t with
  | nil => simp [eRef]
  | cons m l ih =>
    simp only [eRef, List.length_append, List.length_map, List.length_cons, rg_length, ih]
    rw [Nat.add_mul]; omega
theorem edR_len (hN : NetIn bs ms) (hl : ∀ o ∈ l, 0 ≤ o ∧ o < bs.length) (hn : l.Nodup) : (edR bs ms l mv i).length ≤ 116 := by
  have h1 := orig_len hn hl hN.n1
  unfold edR
  rw [List.length_append, eRef_len, eSrc, List.length_map, List.length_take]
  have h2 : min i ms.length ≤ 12 := by have := hN.m1; omega
  have h3 : min i ms.length * (bs.length + 1) ≤ 12 * 9 := Nat.mul_le_mul h2 (by have := hN.n1; omega)
  omega
end

/-- how things stand between two pushes -/
structure ComeR (n T : Nat) (E : List EdI) (best : Int) (R : Int → Int → Int) (tot : Int) : Prop where
  ok : ∀ e ∈ E, EdR n T e
  len : E.length ≤ 117
  ge : ∀ B : Int → Bool, B 0 = false → B (zR n T) = true → best ≤ cutE B E
  ex : ∃ B : Int → Bool, B 0 = false ∧ B (zR n T) = true ∧ cutE B E = best
  res : ∃ D, ResD (rg (szR n T)) (capE E) R D ∧ ∀ u ∈ rg (szR n T), D u = (if u = 0 then tot else 0) - (if u = zR n T then tot else 0)
section
variable {n T : Nat} {E : List EdI} {best tot x : Int} {R R' : Int → Int → Int}
theorem capE_bd (h : ∀ e ∈ E, EdR n T e) (hl : E.length ≤ 117) (u v : Int) : 0 ≤ capE E u v ∧ capE E u v ≤ 936000000 := by
  refine ⟨capE_nonneg (fun e he => (h e he).g0) u v, ?_⟩
  have h1 : capE E u v ≤ E.length * 8000000 := by
    unfold capE
    exact sm_const_le fun e he => by have := (h e he).g0; have := (h e he).g1; split <;> omega
  omega
theorem ComeR.start (hok : ∀ e ∈ E, EdR n T e) (hl : E.length ≤ 117) (ge : ∀ B : Int → Bool, B 0 = false → B (zR n T) = true → best ≤ cutE B E) (ex : ∃ B : Int → Bool, B 0 = false ∧ B (zR n T) = true ∧ cutE B E = best) : ComeR n T E best (capE E) 0 :=
  ⟨hok, hl, ge, ex, fun _ => 0, ResD.start (fun u v => (capE_bd hok hl u v).1), fun u _ => by split <;> split <;> rfl⟩
theorem ComeR.bd (h : ComeR n T E best R tot) (u v : Int) : 0 ≤ R u v ∧ R u v ≤ 1872000000 := by
  obtain ⟨D, hD, _⟩ := h.res
  have h1 := hD.nn u v
  have h2 := hD.nn v u
  have h3 := hD.sy u v
  have h4 := capE_bd h.ok h.len u v
  have h5 := capE_bd h.ok h.len v u
  omega
theorem ComeR.le (h : ComeR n T E best R tot) : tot ≤ best := by
  obtain ⟨D, hD, hd⟩ := h.res
  obtain ⟨B, b0, bz, he⟩ := h.ex
  rw [← he]
  exact hD.le_cut (rg_nodup _) (fun e he => ⟨(h.ok e he).u, (h.ok e he).v⟩) hd (src_mem _ _) B b0 bz
theorem zR_sz (n T : Nat) : ((szR n T - 1 : Nat) : Int) = zR n T := rfl
theorem ComeR.push (h : ComeR n T E best R tot) (hp : QPush (szR n T) R R' x) : ComeR n T E best R' (tot + x) ∧ (x = 0 → tot = best) := by
  obtain ⟨D, hD, hd⟩ := h.res
  by_cases hx : x = 0
  · obtain ⟨e1, B, b0, bz, hB⟩ := hp.no hx
    subst e1
    subst hx
    refine ⟨by simpa using h, fun _ => ?_⟩
    have h1 := hD.eq_cut (rg_nodup _) (fun e he => ⟨(h.ok e he).u, (h.ok e he).v⟩) hd (src_mem _ _) B b0 bz hB
    have h2 := h.ge B b0 bz
    have h3 := h.le
    omega
  · have h0 := hp.n0
    refine ⟨{ h with res := ⟨_, hp.yes (by omega) _ D hD, fun u hu => ?_⟩ }, fun e => absurd e hx⟩
    unfold pushD
    rw [hd u hu, zR_sz]
    split <;> split <;> omega
end
section
variable {bs : List Int} {ms k : List Mv} {m : Mv} {l : List Int}
/-- the net for a batch -/
theorem comeB (hN : NetIn bs ms) (hl : ∀ o ∈ l, 0 ≤ o ∧ o < bs.length) (hn : l.Nodup) {b : Int} (hb : 0 ≤ b ∧ b < bs.length) :
    ComeR bs.length ms.length (edR bs ms l (-1) ms.length ++ [(ndR ms.length b ms.length, zR bs.length ms.length, 8000000)]) (mostF bs.length (bsF bs) l ms b) (capE (edR bs ms l (-1) ms.length ++ [(ndR ms.length b ms.length, zR bs.length ms.length, 8000000)])) 0 := by
  have e : edR bs ms l (-1) ms.length ++ [(ndR ms.length b ms.length, zR bs.length ms.length, 8000000)] = eRefB 0 (ndR ms.length) bs.length (zR bs.length ms.length) (bsF bs) l ms b := by
    unfold edR eRefB; rw [List.take_length]
  refine ComeR.start (fun e he => ?_) ?_ ?_ ?_
  · rcases List.mem_append.1 he with he | he
    · exact edR_ok hN hl (Nat.le_refl _) e he
    · rw [List.mem_singleton.1 he]; exact ⟨nd_mem hb.1 hb.2 (Nat.le_refl _), z_mem _ _, by show (0 : Int) ≤ 8000000; decide, by show (8000000 : Int) ≤ 8000000; decide⟩
  · rw [List.length_append]; have := edR_len (mv := -1) (i := ms.length) hN hl hn; simp; omega
  · rw [e]; exact fun B b0 bz => cutB_ge hN.pos hN.ms hn hl hb hN.sum B b0 bz
  · rw [e]; exact cutB_ex (dec := decR bs.length ms.length) hN.ms hn hl (fun b t h0 h1 ht => decR_nd b t h0 h1 ht) (decR_src _ _) (by rw [zR_eq]; omega) (fun b t h0 h1 ht => zR_ne h0 h1 ht) hb
/-- the net for a move -/
theorem comeM (hN : NetIn bs (ms ++ m :: k)) (hl : ∀ o ∈ l, 0 ≤ o ∧ o < bs.length) (hn : l.Nodup) :
    ComeR bs.length (ms ++ m :: k).length (edR bs (ms ++ m :: k) l ms.length (ms ++ m :: k).length) (min m.g (mostF bs.length (bsF bs) l ms m.fr)) (capE (edR bs (ms ++ m :: k) l ms.length (ms ++ m :: k).length)) 0 := by
  have e : edR bs (ms ++ m :: k) l ms.length (ms ++ m :: k).length = eRefM 0 (ndR (ms ++ m :: k).length) bs.length (zR bs.length (ms ++ m :: k).length) (bsF bs) l (ms ++ m :: k) ms.length := by
    unfold edR eRefM; rw [List.take_length]
  refine ComeR.start (edR_ok hN hl (Nat.le_refl _)) ?_ ?_ ?_
  · have := edR_len (mv := ms.length) (i := (ms ++ m :: k).length) hN hl hn; omega
  · rw [e]; exact fun B b0 bz => cutM_ge hN.pos hN.ms hn hl B b0 bz
  · rw [e]; exact cutM_ex (dec := decR bs.length (ms ++ m :: k).length) hN.ms hn hl (fun b t h0 h1 ht => decR_nd b t h0 h1 ht) (decR_src _ _) (by rw [zR_eq]; omega) (fun b t h0 h1 ht => zR_ne h0 h1 ht)
end
end Go.Proofs.Ytkphgdkjjklajaa

namespace Go.Proofs.Ytkphgdkjjklajaa
open Go.RowKit Go.Shelf Go.Sort

def encB (N : Nat) (b : Nat) : List Value := [.slice (some ⟨b, 0, none⟩) N N]
theorem encB_len (N : Nat) (b : Nat) : (encB N b).length = 1 := rfl
theorem oneB (N : Nat) (b : Nat) : ∀ u ∈ encB N b, u.oneCell' = true := by simp [encB, Value.oneCell']
theorem info_intsQ : (Try.prog.info? 22).map (fun i => (i.zero, i.size, i.bytes)) = some (some (.slice none 0 0), 1, 24) := by kernel_rfl
theorem qnode_at (m b t v : Nat) (hv : 1 + b * m + t = v) (w : World) (hm : m ≤ 1000) (hb : b ≤ 1000) (ht : t ≤ 1000) : Calls Try.prog 88 #[.int .i64 m, .int .i64 b, .int .i64 t] w fun e w' => e = .returned (.int .i64 (v : Int)) ∧ w' = w := by
  subst hv; exact qnode_any m b t w hm hb ht
/-- the rows while the table is laid -/
structure Rows0 (w wr : World) (N : Nat) (v : Value) (rbl : List Nat) : Prop where
  row : ∀ b ∈ rbl, RowC wr b (List.replicate N 0) ∧ w.heap.size + 1 ≤ b ∧ ∀ g, v.ownBlock = some g → g ≠ b
  nd : rbl.Nodup
theorem Rows0.grow {w wr wr' : World} {N : Nat} {v v' : Value} {rbl : List Nat} (h : Rows0 w wr N v rbl) (W : World) (hW : Below wr.heap.size wr W) (hnew : RowC W wr.heap.size (List.replicate N 0)) (hg : W.grownBy wr' v.ownBlock)
    (hv : ∀ g, v.ownBlock = some g → g < wr.heap.size) (hz : w.heap.size + 1 ≤ wr.heap.size) (hat : v'.ownBlock = v.ownBlock ∨ ∃ H, v'.ownBlock = some H ∧ wr.heap.size < H) : Rows0 w wr' N v' (rbl ++ [wr.heap.size]) where
  row b hb := by
    rcases List.mem_append.1 hb with hb | hb
    · obtain ⟨h1, h2, h3⟩ := h.row b hb
      have hlt := h1.lt
      refine ⟨(h1.keep (hW.block b hlt)).grown hg (fun e => h3 b e.symm rfl), h2, fun g hgv => ?_⟩
      rcases hat with e | ⟨H, e, hH⟩
      · exact h3 g (by rw [← e]; exact hgv)
      · rw [e] at hgv; injection hgv with hgv; omega
    · rw [List.mem_singleton.1 hb]
      refine ⟨hnew.grown hg (fun e => by have := hv _ e.symm; omega), hz, fun g hgv => ?_⟩
      rcases hat with e | ⟨H, e, hH⟩
      · have := hv g (by rw [← e]; exact hgv); omega
      · rw [e] at hgv; injection hgv with hgv; omega
  nd := by
    rw [List.nodup_append]
    exact ⟨h.nd, by simp, fun a ha b hb e => by rw [List.mem_singleton.1 hb] at e; have := (h.row a ha).1.lt; omega⟩
theorem own_mat {w wr : World} {N c : Nat} {A : Option Addr} {rbl : List Nat} (h : Rows0 w wr N (.slice A N c) rbl) (ho : wr.ownsRow (w.heap.size + 1) 22 1 (.slice A N c) N (rbl.flatMap (encB N))) (hl : rbl.length = N) (hN : 0 < N) :
    ∃ Bo, A = some ⟨Bo, 0, none⟩ ∧ Mat wr (w.heap.size + 1) Bo (fun k => rbl.getD k 0) N (fun _ _ => 0) := by
  rcases ho.2 with ⟨_, hx⟩ | ⟨g, cap, cur, hv, hbg, hh, hnc, hcm, hcs, htake⟩
  · omega
  · injection hv with hA _ _
    subst hA
    have hlt := ho.lt g rfl
    have hget : ∀ k (hk : k < N), rbl.getD k 0 = rbl[k]'(by omega) := fun k hk => by rw [List.getD_eq_getElem?_getD, List.getElem?_eq_getElem (by omega)]; rfl
    refine ⟨g, rfl, hlt.1, hlt.2, fun k hk => ?_, fun k hk => ?_, fun k hk => ?_, fun k hk => ?_, fun j k hj hk e => ?_⟩
    · have h1 := ho.cells (g := g) rfl k (.slice (some ⟨rbl[k]'(by omega), 0, none⟩) N N) (by have := flat_at (encB_len N) rbl k (by omega) 0 _ rfl; simpa using this)
      rw [hget k hk]
      unfold Addr.add at h1
      split at h1
      · rename_i h0; subst h0; exact h1
      · simpa using h1
    · show RowC wr (rbl.getD k 0) _
      rw [hget k hk]
      have h1 := (h.row _ (List.getElem_mem (show k < rbl.length by omega))).1
      have e : (rg N).map (fun _ => (0 : Int)) = List.replicate N 0 := by rw [List.map_const']; rw [rg_length]
      rw [e]; exact h1
    · show rbl.getD k 0 ≠ g
      rw [hget k hk]
      exact fun e => (h.row _ (List.getElem_mem (show k < rbl.length by omega))).2.2 g rfl e.symm
    · show _ ≤ rbl.getD k 0
      rw [hget k hk]
      exact (h.row _ (List.getElem_mem (show k < rbl.length by omega))).2.1
    · rw [hget j hj, hget k hk] at e
      exact (List.getElem_inj h.nd).1 e
/-- how things stand while the table is filled -/
structure QSt (w wr : World) (Ab Am : Option Addr) (nb cb nm cm : Nat) (Bo N : Nat) (rb : Nat → Nat) (R : Int → Int → Int) : Prop where
  m : Mat wr (w.heap.size + 1) Bo rb N R
  n : Blk wr w.heap.size 25 #[.slice Ab nb cb, .slice Am nm cm]
  b : Below w.heap.size w wr
section
variable {w wr wr' : World} {Ab Am : Option Addr} {nb cb nm cm Bo N : Nat} {rb : Nat → Nat} {R R' : Int → Int → Int}
theorem QSt.old (h : QSt w wr Ab Am nb cb nm cm Bo N rb R) (hb : Below wr.heap.size wr wr') : QSt w wr' Ab Am nb cb nm cm Bo N rb R := ⟨h.m.old hb, h.n.below hb h.n.lt, h.b.trans (hb.mono h.b.size)⟩
theorem QSt.drew (h : QSt w wr Ab Am nb cb nm cm Bo N rb R) : QSt w wr.drew Ab Am nb cb nm cm Bo N rb R := h.old (Below.refl _ wr).drew
theorem QSt.set_ (h : QSt w wr Ab Am nb cb nm cm Bo N rb R) {u v : Nat} (hu : u < N) (hv : v < N) (x : Int) : QSt w (wr.setCell ⟨rb u, v, none⟩ (.int .i64 x)) Ab Am nb cb nm cm Bo N rb (setR R u v x) :=
  ⟨h.m.set_ hu hv x, h.n.far (p := ⟨rb u, v, none⟩) (by have := h.m.lor u hu; show w.heap.size ≠ rb u; omega) _, h.m.lowSet h.b (by omega) hu v _⟩
end
theorem qnode_i (m b t v : Nat) (ti : Int) (hti : ti = (t : Int)) (hv : 1 + b * m + t = v) (w : World) (hm : m ≤ 1000) (hb : b ≤ 1000) (ht : t ≤ 1000) : Calls Try.prog 88 #[.int .i64 m, .int .i64 b, .int .i64 ti] w fun e w' => e = .returned (.int .i64 (v : Int)) ∧ w' = w := by
  subst hti; exact qnode_at m b t v hv w hm hb ht
theorem node_lt {n T q N : Nat} (hq : q = T + 1) (hN : N = szR n T) {b t v : Nat} (hb : b < n) (ht : t ≤ T) (hv : 1 + b * q + t = v) : ndR T (b : Int) (t : Int) = (v : Int) ∧ v < N ∧ 0 < v := by
  have h0 : ndR T (b : Int) (t : Int) = (v : Int) := by rw [← hv, hq]; exact ndR_nat T b t
  have h1 := ndR_in (n := n) (T := T) (b := (b : Int)) (t := t) (by omega) (by omega) ht
  rw [h0, zR_eq] at h1
  refine ⟨h0, ?_, by omega⟩
  rw [hN]; unfold szR; omega
/-- a move's own block -/
def MvB (V W : World) (B : Nat) (cs : Array Value) : Prop := Blk W B 61 cs ∧ V.heap.size ≤ B
theorem MvB.newE {V W : World} (h : Below V.heap.size V W) : ∃ B, B = W.heap.size ∧ MvB V (W.alloc (.cells #[.int .i64 0, .int .i64 0, .int .i64 0] 61)) B #[.int .i64 0, .int .i64 0, .int .i64 0] := ⟨_, rfl, Blk.new _ _ _, h.size⟩
theorem MvB.old {V W W' : World} {B : Nat} {cs : Array Value} (h : MvB V W B cs) (hb : Below W.heap.size W W') : MvB V W' B cs := ⟨h.1.below hb h.1.lt, h.2⟩
theorem MvB.store {V W : World} {B : Nat} (u v z : Value) (h : MvB V W B #[.int .i64 0, .int .i64 0, .int .i64 0]) (hV : Below V.heap.size V W) :
    MvB V (((W.setCell ⟨B, 0, none⟩ u).setCell ⟨B, 1, none⟩ v).setCell ⟨B, 2, none⟩ z) B #[u, v, z] ∧ Below V.heap.size V (((W.setCell ⟨B, 0, none⟩ u).setCell ⟨B, 1, none⟩ v).setCell ⟨B, 2, none⟩ z) :=
  ⟨⟨((h.1.set_ 0 u).set_ 1 v).set_ 2 z, h.2⟩, ((hV.setCell (p := ⟨B, 0, none⟩) h.2 _).setCell (p := ⟨B, 1, none⟩) h.2 _).setCell (p := ⟨B, 2, none⟩) h.2 _⟩
theorem MvB.last {V W : World} (h : Below V.heap.size V W) (u v z : Value) : MvB V (W.alloc (.cells #[u, v, z] 61)) W.heap.size #[u, v, z] ∧ Below V.heap.size V (W.alloc (.cells #[u, v, z] 61)) := ⟨⟨Blk.new _ _ _, h.size⟩, h.alloc h.size _⟩
theorem RowC.store3 {W : World} {g B : Nat} {l : List Int} (h : RowC W g l) (hne : g ≠ B) (u v z : Value) : RowC (((W.setCell ⟨B, 0, none⟩ u).setCell ⟨B, 1, none⟩ v).setCell ⟨B, 2, none⟩ z) g l :=
  ((h.far (p := ⟨B, 0, none⟩) hne u).far (p := ⟨B, 1, none⟩) hne v).far (p := ⟨B, 2, none⟩) hne z
/-- all edges of the net that is asked -/
def edAll (bs : List Int) (ms : List Mv) (l : List Int) (batch mv : Int) : List EdI := if 0 ≤ batch then edR bs ms l mv ms.length ++ [(ndR ms.length batch ms.length, zR bs.length ms.length, 8000000)] else edR bs ms l mv ms.length

theorem ComeR.best_le {n T : Nat} {E : List EdI} {best tot : Int} {R : Int → Int → Int} (h : ComeR n T E best R tot) : best ≤ 936000000 := by
  obtain ⟨B, _, _, he⟩ := h.ex
  have hl := h.len
  have h1 : cutE B E ≤ E.length * 8000000 := by
    unfold cutE
    exact sm_const_le fun e he => by have := (h.ok e he).g0; have := (h.ok e he).g1; split <;> omega
  omega
theorem edAll_b (bs : List Int) (ms : List Mv) (l : List Int) {batch mv : Int} (h : 0 ≤ batch) : edAll bs ms l batch mv = edR bs ms l mv ms.length ++ [(ndR ms.length batch ms.length, zR bs.length ms.length, 8000000)] := by unfold edAll; rw [if_pos h]
theorem edAll_m (bs : List Int) (ms : List Mv) (l : List Int) {batch mv : Int} (h : ¬ 0 ≤ batch) : edAll bs ms l batch mv = edR bs ms l mv ms.length := by unfold edAll; rw [if_neg h]
set_option maxRecDepth 100000 in
set_option maxHeartbeats 4000000 in
theorem qmost_any (b1 b2 b3 : Nat) (Ab Am Ao : Option Addr) (nb cb nm cm no co : Nat) (bs : List Int) (ms : List Mv) (l : List Int) (batch mv best : Int) (w : World) (hN : NetIn bs ms) (hM : NetM w b1 b2 Ab Am nb cb nm cm bs ms)
    (hO : Sl encI 1 w b3 Ao no l) (hl : ∀ o ∈ l, 0 ≤ o ∧ o < bs.length) (hnd : l.Nodup) (hb0 : -1 ≤ batch) (hb1 : batch < bs.length) (hm0 : -1 ≤ mv) (hm1 : mv ≤ 1000)
    (hC : ComeR bs.length ms.length (edAll bs ms l batch mv) best (capE (edAll bs ms l batch mv)) 0) :
    Calls Try.prog 74 #[netV Ab Am nb cb nm cm, .slice Ao no co, .int .i64 batch, .int .i64 mv] w fun e w' => e = .returned (.int .i64 best) ∧ Below w.heap.size w w' := by
  obtain ⟨i0, hi, iz0, iz1, iz2⟩ := info_parts info_intsQ
  have hnb := hM.b.len
  have hnm := hM.m.len
  have hnb8 : nb ≤ 8 := by have := hN.n1; omega
  have hnb0 : 0 < nb := by have := hN.n0; omega
  have hnm12 : nm ≤ 12 := by have := hN.m1; omega
  have hno8 : no ≤ 8 := by have := hO.len; have := orig_len hnd hl hN.n1; omega
  obtain ⟨q, hq⟩ : ∃ q : Nat, (nm : Int) + 1 = (q : Int) := ⟨nm + 1, by omega⟩
  have hqn : q = nm + 1 := by omega
  have hq14 : q ≤ 14 := by omega
  obtain ⟨N, hNN⟩ : ∃ N : Nat, N = szR nb nm := ⟨_, rfl⟩
  have hmul : nb * q ≤ 8 * 13 := Nat.mul_le_mul hnb8 (by omega)
  have hNq : N = nb * q + 2 := by rw [hNN, hqn]; rfl
  have h2 : ((nb * q : Nat) : Int) = (nb : Int) * (q : Int) := Int.natCast_mul _ _
  have h3 : 0 ≤ (nb : Int) * (q : Int) ∧ (nb : Int) * (q : Int) ≤ 1000000 := by rw [← h2]; omega
  have hN2 : (nb : Int) * (q : Int) + 2 = (N : Int) := by rw [← h2]; omega
  obtain ⟨h4, h5⟩ := h3
  have hN106 : N ≤ 106 := by omega
  have hN3 : 2 ≤ N := by omega
  have hmk := make_ints N (by omega)
  have hBn := Blk.new w 25 #[.slice Ab nb cb, .slice Am nm cm]
  have hB0 : Below w.heap.size w (w.alloc (.cells #[.slice Ab nb cb, .slice Am nm cm] 25)) := (Below.refl _ w).alloc (Nat.le_refl _) _
  have c0 := hBn.cell 0
  have c1 := hBn.cell 1
  have HNB := Lib.hid hnb
  have HNM := Lib.hid hnm
  have HQ := Lib.hid hq
  have HQN := Lib.hid hqn
  have HNQ := Lib.hid hNq
  have HNN := Lib.hid hNN
  have HN2 := Lib.hid hN2
  have HBN := Lib.hid hBn
  have HB0 := Lib.hid hB0
  have HM := Lib.hid hM
  have HN := Lib.hid hN
  have HO := Lib.hid hO
  have HL := Lib.hid hl
  have HND := Lib.hid hnd
  have HC := Lib.hid hC
  clear hnb hnm hq hqn hNN hmul hNq h2 hN2 hBn hB0 hM hN hO hl hnd hC
  go_enter Try.func74, Try.ntmps74
  go_upto_region 2 with fail
  rw [HQ.out]
  go_upto_region 3 with fail
  rw [HN2.out]
  clear h4 h5 c0 c1
  go_wp2_with fail
  go_loopw [11, 12] (fun rv iv wr => ∃ (k c : Nat) (A : Option Addr) (rbl : List Nat), k ≤ N ∧ iv = .int .i64 k ∧ rv = .slice A k c ∧ rbl.length = k ∧ Rows0 w wr N (.slice A k c) rbl ∧ wr.ownsRow (w.heap.size + 1) 22 1 (.slice A k c) k (rbl.flatMap (encB N)) ∧ Blk wr w.heap.size 25 #[.slice Ab nb cb, .slice Am nm cm] ∧ Below w.heap.size w wr) (fun _ iv _ => N - (intOf iv).toNat)
  case atStart => exact ⟨0, 0, none, [], Nat.zero_le _, rfl, rfl, rfl, ⟨fun b hb => (by cases hb), List.nodup_nil⟩, World.ownsRow_nil _ _ _ _, HBN.out, HB0.out⟩
  case round =>
    obtain ⟨k, c, A, rbl, hk, rfl, rfl, hrl, hrows, hown, hblk, hB⟩ := hrel
    have hzz := hblk.lt
    have HRL := Lib.hid hrl
    have HROWS := Lib.hid hrows
    have HOWN := Lib.hid hown
    have HBLK := Lib.hid hblk
    have HB := Lib.hid hB
    clear hrl hrows hown hblk hB
    by_cases hlt : k < N
    · have HOA := Lib.hid ((HOWN.out.alloc (.cells (Array.replicate N (Value.int .i64 0)) 3)).alloc (.cells #[.slice (some ⟨wr.heap.size, 0, none⟩) N N] 22))
      have HSN := Lib.hid (show Sl (encB N) 1 ((wr.alloc (.cells (Array.replicate N (Value.int .i64 0)) 3)).alloc (.cells #[.slice (some ⟨wr.heap.size, 0, none⟩) N N] 22)) (wr.heap.size + 1) (some ⟨wr.heap.size + 1, 0, none⟩) 1 [wr.heap.size] from by
        have h := Sl.new (encB_len N) (wr.alloc (.cells (Array.replicate N (Value.int .i64 0)) 3)) [wr.heap.size] 22 #[.slice (some ⟨wr.heap.size, 0, none⟩) N N] rfl
        rw [World.size_alloc] at h
        exact h)
      have HBA := Lib.hid (show Below wr.heap.size wr ((wr.alloc (.cells (Array.replicate N (Value.int .i64 0)) 3)).alloc (.cells #[.slice (some ⟨wr.heap.size, 0, none⟩) N N] 22)) from by go_grown)
      go_wp2_with (at_builtin; refine wpList_append_sl rfl _ _ 34 rfl (w.heap.size + 1) 22 i0 _ 24 Try.underlying34 hi iz0 iz1 iz2 rfl (by omega) (encB_len N) _ k _ rfl HOA.out (wr.heap.size + 1) _ 1 1 [wr.heap.size] rfl HSN.out (oneB N) (by unfold maxLen; omega) (by omega) (by simp; omega) ?_; intro A6 c6 w6 hO6 hg6 hat6; have HO6 := Lib.hid hO6; have HG6 := Lib.hid hg6; have HAT := Lib.hid hat6; clear hO6 hg6 hat6)
      have HR6 := Lib.hid (HROWS.out.grow (v' := .slice A6 (k + 1) c6) _ HBA.out ((RowC.made wr N).grown (World.grownBy_alloc _ (.cells #[.slice (some ⟨wr.heap.size, 0, none⟩) N N] 22) none) (by simp)) HG6.out (fun g hg => (HOWN.out.lt g hg).2) (by omega) (HAT.out.imp id fun e => ⟨_, e, by simp only [World.size_alloc]; omega⟩))
      have hz6 := HG6.out.size
      have HK6 := Lib.hid (own_keeps HOA.out HG6.out (b := w.heap.size) (by omega) (by simp; omega))
      have HN6 := Lib.hid (show Blk w6 w.heap.size 25 #[.slice Ab nb cb, .slice Am nm cm] from HK6.out.trans ((HBLK.out.alloc _).alloc _))
      have HB6 := Lib.hid (below_own HOA.out HG6.out (HB.out.trans (HBA.out.mono HB.out.size)) (by omega) (Nat.le_refl _))
      have hO6 := HO6.out
      rw [show rbl.flatMap (encB N) ++ [wr.heap.size].flatMap (encB N) = (rbl ++ [wr.heap.size]).flatMap (encB N) from (List.flatMap_append ..).symm] at hO6
      first
        | exact ⟨⟨k + 1, c6, A6, rbl ++ [wr.heap.size], by omega, by go_num, rfl, by rw [List.length_append, HRL.out]; rfl, HR6.out, hO6, HN6.out, HB6.out⟩, by simp [intOf]; omega⟩
        | (go_roundw; exact ⟨k + 1, c6, A6, rbl ++ [wr.heap.size], by omega, by go_num, rfl, by rw [List.length_append, HRL.out]; rfl, HR6.out, hO6, HN6.out, HB6.out⟩; (simp [intOf]; omega))
    · obtain rfl : k = N := by omega
      obtain ⟨Bo, rfl, hmat⟩ := own_mat HROWS.out HOWN.out HRL.out (by omega)
      generalize hrb : (fun k => rbl.getD k 0) = rb at hmat
      have HST := Lib.hid (show QSt w wr Ab Am nb cb nm cm Bo k rb (capE (eSrc (0 : Int) (ndR ms.length) (bsF bs) (l.take 0))) from ⟨hmat.congr fun u v _ _ _ _ => by simp [eSrc, capE, sm], HBLK.out, HB.out⟩)
      have HNNk := Lib.hid HNN.out
      clear hrb hmat
      obtain ⟨wo, rfl⟩ : ∃ wo : World, wo = wr := ⟨_, rfl⟩
      go_wp2_with fail
      go_loopw [13] (fun iv wr => ∃ j : Nat, j ≤ no ∧ iv = .int .i64 j ∧ QSt w wr Ab Am nb cb nm cm Bo k rb (capE (eSrc (0 : Int) (ndR ms.length) (bsF bs) (l.take j)))) (fun iv _ => no - (intOf iv).toNat)
      case atStart => exact ⟨0, Nat.zero_le _, rfl, HST.out⟩
      case round =>
        obtain ⟨j, hj, rfl, hst⟩ := hrel
        have HS := Lib.hid hst
        clear hst
        by_cases hlt2 : j < no
        · have hjl : j < l.length := by have := HO.out.len; omega
          obtain ⟨o, rfl, hoz, so⟩ := (HO.out.old HS.out.b).atI hjl
          have hor := HL.out _ (List.getElem_mem hjl)
          have HFR := Lib.hid (src_fresh (ms := ms) HL.out HND.out hjl)
          have HSN := Lib.hid (eSrcR_snoc ms.length (bsF bs) l j hjl)
          generalize l[j] = x at so hor HFR HSN
          obtain ⟨a, rfl⟩ := Int.eq_ofNat_of_zero_le hor.1
          have hab : a < nb := by have := HNB.out; omega
          obtain ⟨ob, rfl, hobz, sb⟩ := (HM.out.b.old HS.out.b).atI (k := a) (by omega)
          have hbsa : bsF bs a = bs[a]'(by omega) := bsF_get (by omega)
          rw [← hbsa] at sb
          have HBV := Lib.hid (bsF_in HN.out.gr (a : Int))
          generalize hgv : bsF bs a = g at sb
          obtain ⟨v, hv⟩ : ∃ v : Nat, 1 + a * q + 0 = v := ⟨_, rfl⟩
          have hvr : ndR ms.length a 0 = (v : Int) := by rw [← hv, HQN.out, HNM.out]; exact ndR_nat _ _ 0
          have hvN : v < k := by
            have h1 := ndR_in (T := ms.length) (t := 0) hor.1 hor.2 (Nat.zero_le _)
            have h2 : ((k : Nat) : Int) = zR bs.length ms.length + 1 := by rw [HNNk.out, HNB.out, HNM.out]; rw [zR_eq]; unfold szR; omega
            have h3 : ndR ms.length (a : Int) ((0 : Nat) : Int) = (v : Int) := hvr
            rw [h3] at h1
            omega
          have HCON := Lib.hid (fun W => qnode_at q a 0 v hv W (by have := HQN.out; omega) (by omega) (by omega))
          have HVR := Lib.hid hvr
          have HV := Lib.hid hv
          have HGV := Lib.hid hgv
          have cr0 := HS.out.m.out 0 (by omega)
          have cc := HS.out.m.at_ (u := 0) (v := v) (by omega) hvN
          have ff := HS.out.m.frozen (u := 0) (by omega) v
          have n0 := HS.out.n.cell 0
          have HF := Lib.hid (And.intro cr0 (And.intro so (And.intro n0 sb)))
          have HFF := Lib.hid (And.intro cc ff)
          have j0 : (0 : Int) ≤ (j : Int) := by omega
          have j1 : (j : Int) < (no : Int) := by omega
          have a0 : (0 : Int) ≤ (a : Int) := by omega
          have a1 : (a : Int) < (nb : Int) := by omega
          have v0 : (0 : Int) ≤ (v : Int) := by omega
          have v1 : (v : Int) < (k : Int) := by omega
          have hk0 : 0 < k := by omega
          clear hor hbsa hgv hv hvr cr0 cc ff n0 so sb
          go_upto_region 11 with fail
          refine wp_region_PL [2, 7, 10, 14, 16] (fun W => W.cell? ⟨Bo, 0, none⟩ = some (.slice (some ⟨rb 0, 0, none⟩) k k) ∧ W.cell? ⟨b3, o + j, none⟩ = some (.int .i64 (a : Int)) ∧ W.cell? ⟨w.heap.size, 0, none⟩ = some (.slice (some ⟨b1, ob, none⟩) nb cb) ∧ W.cell? ⟨b1, ob + a, none⟩ = some (.int .i64 g)) rfl (by kernel_rfl) (HF.out) (fun hF0 => ?_)
          (refine wpAnyP_takeL (i := 0) (v := ?_) rfl (by kernel_rfl) (by kernel_rfl) (by kernel_rfl) (fun _ _ _ h => h) (by rfl) ?_ ?_; rotate_left 1; focus (intro w; go_simp; try with_reducible rfl))
          try simp only [Act.put, List.setIfInBounds_toArray, List.set_cons_zero, List.set_cons_succ]
          (refine wpAnyP_takeL (i := 1) (v := ?_) rfl (by kernel_rfl) (by kernel_rfl) (by kernel_rfl) (fun _ _ _ h => h) (by rfl) ?_ ?_; rotate_left 1; focus (intro w; go_simp; try with_reducible rfl))
          try simp only [Act.put, List.setIfInBounds_toArray, List.set_cons_zero, List.set_cons_succ]
          (refine wpAnyP_loadL (i := 2) (v := ?_) rfl (by kernel_rfl) (by kernel_rfl) (by kernel_rfl) (by rfl) (fun _ _ _ h => h) hF0 (by rfl) ?_ ?_; rotate_left 1; focus (intro w hFw; (try dsimp only at hFw); go_split_ands; go_simp; try with_reducible rfl))
          try simp only [Act.put, List.setIfInBounds_toArray, List.set_cons_zero, List.set_cons_succ]
          (refine wpAnyP_takeL (i := 3) (v := ?_) rfl (by kernel_rfl) (by kernel_rfl) (by kernel_rfl) (fun _ _ _ h => h) (by rfl) ?_ ?_; rotate_left 1; focus (intro w; go_simp; try with_reducible rfl))
          try simp only [Act.put, List.setIfInBounds_toArray, List.set_cons_zero, List.set_cons_succ]
          (refine wpAnyP_takeL (i := 4) (v := ?_) rfl (by kernel_rfl) (by kernel_rfl) (by kernel_rfl) (fun _ _ _ h => h) (by rfl) ?_ ?_; rotate_left 1; focus (intro w; go_simp; try with_reducible rfl))
          try simp only [Act.put, List.setIfInBounds_toArray, List.set_cons_zero, List.set_cons_succ]
          (refine wpAnyP_takeL (i := 5) (v := ?_) rfl (by kernel_rfl) (by kernel_rfl) (by kernel_rfl) (fun _ _ _ h => h) (by rfl) ?_ ?_; rotate_left 1; focus (intro w; go_simp; try with_reducible rfl))
          try simp only [Act.put, List.setIfInBounds_toArray, List.set_cons_zero, List.set_cons_succ]
          (refine wpAnyP_takeL (i := 6) (v := ?_) rfl (by kernel_rfl) (by kernel_rfl) (by kernel_rfl) (fun _ _ _ h => h) (by rfl) ?_ ?_; rotate_left 1; focus (intro w; go_simp; try with_reducible rfl))
          try simp only [Act.put, List.setIfInBounds_toArray, List.set_cons_zero, List.set_cons_succ]
          (refine wpAnyP_loadL (i := 7) (v := ?_) rfl (by kernel_rfl) (by kernel_rfl) (by kernel_rfl) (by rfl) (fun _ _ _ h => h) hF0 (by rfl) ?_ ?_; rotate_left 1; focus (intro w hFw; (try dsimp only at hFw); go_split_ands; go_simp; try with_reducible rfl))
          try simp only [Act.put, List.setIfInBounds_toArray, List.set_cons_zero, List.set_cons_succ]
          (refine wpAnyP_takeL (i := 9) (v := ?_) rfl (by kernel_rfl) (by kernel_rfl) (by kernel_rfl) (fun _ _ _ h => h) (by rfl) ?_ ?_; rotate_left 1; focus (intro w; go_simp; try with_reducible rfl))
          try simp only [Act.put, List.setIfInBounds_toArray, List.set_cons_zero, List.set_cons_succ]
          (refine wpAnyP_loadL (i := 10) (v := ?_) rfl (by kernel_rfl) (by kernel_rfl) (by kernel_rfl) (by rfl) (fun _ _ _ h => h) hF0 (by rfl) ?_ ?_; rotate_left 1; focus (intro w hFw; (try dsimp only at hFw); go_split_ands; go_simp; try with_reducible rfl))
          try simp only [Act.put, List.setIfInBounds_toArray, List.set_cons_zero, List.set_cons_succ]
          (refine wpAnyP_takeL (i := 11) (v := ?_) rfl (by kernel_rfl) (by kernel_rfl) (by kernel_rfl) (fun _ _ _ h => h) (by rfl) ?_ ?_; rotate_left 1; focus (intro w; go_simp; try with_reducible rfl))
          try simp only [Act.put, List.setIfInBounds_toArray, List.set_cons_zero, List.set_cons_succ]
          (refine wpAnyP_takeL (i := 12) (v := ?_) rfl (by kernel_rfl) (by kernel_rfl) (by kernel_rfl) (fun _ _ _ h => h) (by rfl) ?_ ?_; rotate_left 1; focus (intro w; go_simp; try with_reducible rfl))
          try simp only [Act.put, List.setIfInBounds_toArray, List.set_cons_zero, List.set_cons_succ]
          (refine wpAnyP_takeL (i := 13) (v := ?_) rfl (by kernel_rfl) (by kernel_rfl) (by kernel_rfl) (fun _ _ _ h => h) (by rfl) ?_ ?_; rotate_left 1; focus (intro w; go_simp; try with_reducible rfl))
          try simp only [Act.put, List.setIfInBounds_toArray, List.set_cons_zero, List.set_cons_succ]
          (refine wpAnyP_loadL (i := 14) (v := ?_) rfl (by kernel_rfl) (by kernel_rfl) (by kernel_rfl) (by rfl) (fun _ _ _ h => h) hF0 (by rfl) ?_ ?_; rotate_left 1; focus (intro w hFw; (try dsimp only at hFw); go_split_ands; go_simp; try with_reducible rfl))
          try simp only [Act.put, List.setIfInBounds_toArray, List.set_cons_zero, List.set_cons_succ]
          (refine wpAnyP_takeL (i := 15) (v := ?_) rfl (by kernel_rfl) (by kernel_rfl) (by kernel_rfl) (fun _ _ _ h => h) (by rfl) ?_ ?_; rotate_left 1; focus (intro w; go_simp; try with_reducible rfl))
          try simp only [Act.put, List.setIfInBounds_toArray, List.set_cons_zero, List.set_cons_succ]
          (refine wpAnyP_loadL (i := 16) (v := ?_) rfl (by kernel_rfl) (by kernel_rfl) (by kernel_rfl) (by rfl) (fun _ _ _ h => h) hF0 (by rfl) ?_ ?_; rotate_left 1; focus (intro w hFw; (try dsimp only at hFw); go_split_ands; go_simp; try with_reducible rfl))
          try simp only [Act.put, List.setIfInBounds_toArray, List.set_cons_zero, List.set_cons_succ]
          refine wpAnyP_step (i := 8) rfl (by kernel_rfl) (by rfl) (fun K hK => ?_)
          go_simp
          (refine (HCON.out _).mono ?_; rintro e w' ⟨rfl, rfl⟩)
          (refine hK _ _ (HF.out) (fun hF1 => ?_); clear hK K hF0)
          try simp only [Act.put, List.setIfInBounds_toArray, List.set_cons_zero, List.set_cons_succ]
          (refine wpAnyP_takeL (i := 17) (v := ?_) rfl (by kernel_rfl) (by kernel_rfl) (by kernel_rfl) (fun _ _ _ h => h) (by rfl) ?_ ?_; rotate_left 1; focus (intro w; go_simp; try with_reducible rfl))
          try simp only [Act.put, List.setIfInBounds_toArray, List.set_cons_zero, List.set_cons_succ]
          refine wpAnyP_last (i := 18) rfl (by kernel_rfl) (by kernel_rfl) (by rfl) (fun K hK => ?_)
          go_simp
          (have f1 := HFF.out.2; have e1 := HFF.out.1; go_simp; clear f1 e1)
          (refine hK _ _ ?_; clear hK K)
          try simp only [Act.put, List.setIfInBounds_toArray, List.set_cons_zero, List.set_cons_succ]
          refine wpAnyP_done (by kernel_rfl) ?_ _
          have HS2 := Lib.hid (show QSt w (wr.setCell ⟨rb 0, v, none⟩ (.int .i64 g)) (some ⟨b1, ob, none⟩) Am nb cb nm cm Bo k rb (capE (eSrc (0 : Int) (ndR ms.length) (bsF bs) (l.take (j + 1)))) from by
            have h := HS.out.set_ (u := 0) (v := v) (by omega) hvN g
            have e := capE_set HFR.out g
            have hvr : ndR ms.length a 0 = (v : Int) := HVR.out
            rw [hvr] at e
            have hsn := HSN.out
            rw [hvr, HGV.out] at hsn
            rw [hsn, ← e]
            exact h)
          go_wp2_with fail
          first
            | exact ⟨⟨j + 1, by omega, by go_num, HS2.out.drew⟩, by simp [intOf]; omega⟩
            | exact ⟨⟨j + 1, by omega, by go_num, HS2.out⟩, by simp [intOf]; omega⟩
        · obtain rfl : j = no := by omega
          have HS1 := Lib.hid (show QSt w wr Ab Am nb cb nm cm Bo k rb (capE (edR bs ms l mv 0)) from by
            have h := HS.out
            rw [List.take_of_length_le (by have := HO.out.len; omega)] at h
            have e : edR bs ms l mv 0 = eSrc (0 : Int) (ndR ms.length) (bsF bs) l := by simp [edR, eRef]
            rw [e]; exact h)
          clear HST HS
          obtain ⟨wp, rfl⟩ : ∃ wp : World, wp = wr := ⟨_, rfl⟩
          go_wp2_with fail
          go_loopw [14] (fun iv wr => ∃ i : Nat, i ≤ nm ∧ iv = .int .i64 i ∧ QSt w wr Ab Am nb cb nm cm Bo k rb (capE (edR bs ms l mv i))) (fun iv _ => nm - (intOf iv).toNat)
          case atStart => exact ⟨0, Nat.zero_le _, rfl, HS1.out⟩
          case round =>
            obtain ⟨i, hi, rfl, hst⟩ := hrel
            have HS := Lib.hid hst
            clear hst
            have n1 := HS.out.n.cell 1
            by_cases hlt3 : i < nm
            · have him : i < ms.length := by have := HNM.out; omega
              obtain ⟨om, rfl, hbz, s0, s1, s2⟩ := (HM.out.m.old HS.out.b).atM him
              have hOK := HN.out.at_ him
              have HSTEP := Lib.hid (edR_step bs ms l mv him)
              obtain ⟨gb0, gb1⟩ := HN.out.g_bd him
              generalize hmk : ms[i] = m at s0 s1 s2 hOK HSTEP gb0 gb1
              obtain ⟨mf, mt, g⟩ := m
              have hf0 := hOK.f0; have hf1 := hOK.f1; have ht0 := hOK.t0; have ht1 := hOK.t1; have hne := hOK.ne
              have hg0 := hOK.g0
              have hg1 := hOK.g1
              simp only at s0 s1 s2 hf0 hf1 ht0 ht1 hne hg0 hg1 gb0 gb1
              obtain ⟨f, rfl⟩ := Int.eq_ofNat_of_zero_le hf0
              obtain ⟨t, rfl⟩ := Int.eq_ofNat_of_zero_le ht0
              rw [← HNB.out] at hf1 ht1
              have HMK := Lib.hid hmk
              clear hOK hmk
              have n0 := HS.out.n.cell 0
              have i0' : (0 : Int) ≤ (i : Int) := by omega
              have i1' : (i : Int) < (nm : Int) := by omega
              have HMS := Lib.hid (HM.out.old HS.out.b)
              have HF := Lib.hid (fun (W : World) (hW : Below wr.heap.size wr W) => (show W.cell? ⟨w.heap.size, 0, none⟩ = some (.slice Ab nb cb) ∧ W.cell? ⟨w.heap.size, 1, none⟩ = some (.slice (some ⟨b2, om, none⟩) nm cm) ∧ W.cell? ⟨b2, om + i * 3, none⟩ = some (.int .i64 (f : Int)) ∧ W.cell? ⟨b2, om + i * 3 + 1, none⟩ = some (.int .i64 (t : Int)) ∧ W.cell? ⟨b2, om + i * 3 + 2, none⟩ = some (.int .i64 g) from
                ⟨(hW.cell (p := ⟨w.heap.size, 0, none⟩) HS.out.n.lt).trans n0, (hW.cell (p := ⟨w.heap.size, 1, none⟩) HS.out.n.lt).trans n1, (hW.cell (p := ⟨b2, _, none⟩) hbz).trans s0, (hW.cell (p := ⟨b2, _, none⟩) hbz).trans s1, (hW.cell (p := ⟨b2, _, none⟩) hbz).trans s2⟩))
              go_upto_region 15 with fail
              go_cut [15, 16] from 73 to 80 (fun p q wx => ∃ (Bm Bh ch : Nat), p = .pointer (some ⟨Bm, 0, none⟩) ∧ q = .slice (some ⟨Bh, 0, none⟩) nb ch ∧ MvB wr wx Bm #[.int .i64 (f : Int), .int .i64 (t : Int), .int .i64 g] ∧ RowC wx Bh ((rg nb).map (hasAt (bsF bs) (ms.take i))) ∧ wr.heap.size ≤ Bh ∧ Below wr.heap.size wr wx)
              case first =>
                have hV : Below wr.heap.size wr wr.drew := (Below.refl _ wr).drew
                refine wp_region_K2 [1, 4, 5] [] (fun W => W.cell? ⟨w.heap.size, 0, none⟩ = some (.slice Ab nb cb) ∧ W.cell? ⟨w.heap.size, 1, none⟩ = some (.slice (some ⟨b2, om, none⟩) nm cm) ∧ W.cell? ⟨b2, om + i * 3, none⟩ = some (.int .i64 (f : Int)) ∧ W.cell? ⟨b2, om + i * 3 + 1, none⟩ = some (.int .i64 (t : Int)) ∧ W.cell? ⟨b2, om + i * 3 + 2, none⟩ = some (.int .i64 g)) (fun _ => True) rfl (by kernel_rfl) (HF.out _ hV) (trivial) (fun hF0 hG0 => ?_)
                (refine wpAnyK_takeL Keep2.refl (i := 0) (v := ?_) rfl (by kernel_rfl) (by kernel_rfl) (by kernel_rfl) (fun _ _ _ h => h) (by rfl) ?_ ?_; rotate_left 1; focus (intro w; go_simp; try with_reducible rfl))
                try simp only [Act.put, List.setIfInBounds_toArray, List.set_cons_zero, List.set_cons_succ]
                (refine wpAnyK_loadL Keep2.refl (i := 1) (v := ?_) rfl (Keep2.left (i := 1) (by rfl)) (by kernel_rfl) (by kernel_rfl) (by kernel_rfl) (fun _ _ _ h => h) hF0 (by rfl) ?_ ?_; rotate_left 1; focus (intro w hFw; (try dsimp only at hFw); go_split_ands; go_simp; try with_reducible rfl))
                try simp only [Act.put, List.setIfInBounds_toArray, List.set_cons_zero, List.set_cons_succ]
                (refine wpAnyK_takeL Keep2.refl (i := 2) (v := ?_) rfl (by kernel_rfl) (by kernel_rfl) (by kernel_rfl) (fun _ _ _ h => h) (by rfl) ?_ ?_; rotate_left 1; focus (intro w; go_simp; try with_reducible rfl))
                try simp only [Act.put, List.setIfInBounds_toArray, List.set_cons_zero, List.set_cons_succ]
                (refine wpAnyK_takeL Keep2.refl (i := 3) (v := ?_) rfl (by kernel_rfl) (by kernel_rfl) (by kernel_rfl) (fun _ _ _ h => h) (by rfl) ?_ ?_; rotate_left 1; focus (intro w; go_simp; try with_reducible rfl))
                try simp only [Act.put, List.setIfInBounds_toArray, List.set_cons_zero, List.set_cons_succ]
                (refine wpAnyK_loadL Keep2.refl (i := 4) (v := ?_) rfl (Keep2.left (i := 4) (by rfl)) (by kernel_rfl) (by kernel_rfl) (by kernel_rfl) (fun _ _ _ h => h) hF0 (by rfl) ?_ ?_; rotate_left 1; focus (intro w hFw; (try dsimp only at hFw); go_split_ands; go_simp; try with_reducible rfl))
                try simp only [Act.put, List.setIfInBounds_toArray, List.set_cons_zero, List.set_cons_succ]
                (refine wpAnyK_loadL Keep2.refl (i := 5) (v := ?_) rfl (Keep2.left (i := 5) (by rfl)) (by kernel_rfl) (by kernel_rfl) (by kernel_rfl) (fun _ _ _ h => h) hF0 (by rfl) ?_ ?_; rotate_left 1; focus (intro w hFw; (try dsimp only at hFw); go_split_ands; go_simp; try with_reducible rfl))
                try simp only [Act.put, List.setIfInBounds_toArray, List.set_cons_zero, List.set_cons_succ]
                (refine wpAnyK_takeL Keep2.refl (i := 6) (v := ?_) rfl (by kernel_rfl) (by kernel_rfl) (by kernel_rfl) (fun _ _ _ h => h) (by rfl) ?_ ?_; rotate_left 1; focus (intro w; go_simp; try with_reducible rfl))
                try simp only [Act.put, List.setIfInBounds_toArray, List.set_cons_zero, List.set_cons_succ]
                refine wpAnyK_all (rs := [7, 8]) (by kernel_rfl) (by simp) ?_
                refine List.forall_mem_cons.2 ⟨?_, List.forall_mem_cons.2 ⟨?_, fun _ h => absurd h List.not_mem_nil⟩⟩
                · refine wpOp_of rfl (by rfl) (fun K hK => ?_)
                  go_simp
                  (refine (qheld_any b1 b2 _ _ nb cb nm cm i bs ms _ (HMS.out.old hV) HN.out (by omega)).mono ?_; rintro e w7 ⟨Bh, ch, rfl, hBh, hR, hB7⟩; have hBL := Nat.le_trans hV.size hBh; (try have hNE : Bh ≠ B := Ne.symm (Nat.ne_of_lt (Nat.lt_of_lt_of_le hA.1.lt hBh))); (try replace hA := hA.old hB7); replace hV := hV.trans (hB7.mono hV.size); clear hB7)
                  (refine hK _ _ ⟨⟨fun _ _ => HF.out _ hV, fun h => absurd h (by decide)⟩, ?_⟩; clear hK K)
                  (refine wpAnyK_with (F := fun W => W.cell? ⟨w.heap.size, 0, none⟩ = some (.slice Ab nb cb) ∧ W.cell? ⟨w.heap.size, 1, none⟩ = some (.slice (some ⟨b2, om, none⟩) nm cm) ∧ W.cell? ⟨b2, om + i * 3, none⟩ = some (.int .i64 (f : Int)) ∧ W.cell? ⟨b2, om + i * 3 + 1, none⟩ = some (.int .i64 (t : Int)) ∧ W.cell? ⟨b2, om + i * 3 + 2, none⟩ = some (.int .i64 g)) (HF.out _ hV) (fun hF1 => ?_); clear hF0)
                  try simp only [Act.put, List.setIfInBounds_toArray, List.set_cons_zero, List.set_cons_succ]
                  refine wpAnyK_step (i := 8) rfl (by kernel_rfl) (by rfl) (fun K hK => ?_)
                  go_simp
                  (obtain ⟨B, hBe, hA⟩ := MvB.newE hV; (try have hNE : Bh ≠ B := (by rw [hBe]; exact Nat.ne_of_lt hR.lt)); (try have hR0 := hR); have hV0 := hV; (try replace hR := hR.grown (World.grownBy_alloc _ (.cells #[.int .i64 0, .int .i64 0, .int .i64 0] 61) none) (by simp)); replace hV := hV.alloc hV.size (.cells #[.int .i64 0, .int .i64 0, .int .i64 0] 61))
                  (refine hK _ _ (⟨fun _ _ => HF.out _ hV, fun h => absurd h (by decide)⟩) ?_; clear hK K)
                  (refine wpAnyK_with (F := fun W => W.cell? ⟨w.heap.size, 0, none⟩ = some (.slice Ab nb cb) ∧ W.cell? ⟨w.heap.size, 1, none⟩ = some (.slice (some ⟨b2, om, none⟩) nm cm) ∧ W.cell? ⟨b2, om + i * 3, none⟩ = some (.int .i64 (f : Int)) ∧ W.cell? ⟨b2, om + i * 3 + 1, none⟩ = some (.int .i64 (t : Int)) ∧ W.cell? ⟨b2, om + i * 3 + 2, none⟩ = some (.int .i64 g)) (HF.out _ hV) (fun hF2 => ?_); clear hF1)
                  try simp only [Act.put, List.setIfInBounds_toArray, List.set_cons_zero, List.set_cons_succ]
                  refine wpAnyK_step (i := 9) rfl (by kernel_rfl) (by rfl) (fun K hK => ?_)
                  go_simp
                  (have f0 := hA.1.frozen 0; have f1 := hA.1.frozen 1; have f2 := hA.1.frozen 2; have c0 := hA.1.cell 0; have c1 := hA.1.cell 1; have c2 := hA.1.cell 2; (try simp only [World.size_alloc, World.size_drew] at hBe); subst hBe; obtain ⟨hq1, hq2⟩ := hA.store (.int .i64 (f : Int)) (.int .i64 (t : Int)) (.int .i64 g) hV; have hR1 := hR.store3 hNE (.int .i64 (f : Int)) (.int .i64 (t : Int)) (.int .i64 g); obtain ⟨hq3, hq4⟩ := MvB.last hV0 (.int .i64 (f : Int)) (.int .i64 (t : Int)) (.int .i64 g); (try have hR3 := hR0.grown (World.grownBy_alloc _ (.cells #[.int .i64 (f : Int), .int .i64 (t : Int), .int .i64 g] 61) none) (by simp)); (try simp only [World.size_alloc, World.size_drew] at hq3); go_simp)
                  (refine hK _ _ (⟨fun _ _ => (by first | with_reducible exact HF.out _ hq2 | with_reducible exact HF.out _ hq4), fun h => absurd h (by decide)⟩) ?_; clear hK K)
                  (refine wpAnyK_with (F := fun W => W.cell? ⟨w.heap.size, 0, none⟩ = some (.slice Ab nb cb) ∧ W.cell? ⟨w.heap.size, 1, none⟩ = some (.slice (some ⟨b2, om, none⟩) nm cm) ∧ W.cell? ⟨b2, om + i * 3, none⟩ = some (.int .i64 (f : Int)) ∧ W.cell? ⟨b2, om + i * 3 + 1, none⟩ = some (.int .i64 (t : Int)) ∧ W.cell? ⟨b2, om + i * 3 + 2, none⟩ = some (.int .i64 g)) ((by first | with_reducible exact HF.out _ hq2 | with_reducible exact HF.out _ hq4)) (fun hF3 => ?_); clear hF2)
                  try simp only [Act.put, List.setIfInBounds_toArray, List.set_cons_zero, List.set_cons_succ]
                  (refine wpAnyK_takeL Keep2.refl (i := 10) (v := ?_) rfl (by kernel_rfl) (by kernel_rfl) (by kernel_rfl) (fun _ _ _ h => h) (by rfl) ?_ ?_; rotate_left 1; focus (intro w; go_simp; try with_reducible rfl))
                  try simp only [Act.put, List.setIfInBounds_toArray, List.set_cons_zero, List.set_cons_succ]
                  refine wpAnyK_done (by kernel_rfl) ?_ _
                  go_wp2_with fail
                  go_meet
                  refine ⟨_, _, _, rfl, rfl, ?_, ?_, ?_, ?_⟩ <;> with_reducible assumption
                · refine wpOp_of rfl (by rfl) (fun K hK => ?_)
                  go_simp
                  (obtain ⟨B, hBe, hA⟩ := MvB.newE hV; (try have hNE : Bh ≠ B := (by rw [hBe]; exact Nat.ne_of_lt hR.lt)); (try have hR0 := hR); have hV0 := hV; (try replace hR := hR.grown (World.grownBy_alloc _ (.cells #[.int .i64 0, .int .i64 0, .int .i64 0] 61) none) (by simp)); replace hV := hV.alloc hV.size (.cells #[.int .i64 0, .int .i64 0, .int .i64 0] 61))
                  (refine hK _ _ ⟨⟨fun _ _ => HF.out _ hV, fun h => absurd h (by decide)⟩, ?_⟩; clear hK K)
                  (refine wpAnyK_with (F := fun W => W.cell? ⟨w.heap.size, 0, none⟩ = some (.slice Ab nb cb) ∧ W.cell? ⟨w.heap.size, 1, none⟩ = some (.slice (some ⟨b2, om, none⟩) nm cm) ∧ W.cell? ⟨b2, om + i * 3, none⟩ = some (.int .i64 (f : Int)) ∧ W.cell? ⟨b2, om + i * 3 + 1, none⟩ = some (.int .i64 (t : Int)) ∧ W.cell? ⟨b2, om + i * 3 + 2, none⟩ = some (.int .i64 g)) (HF.out _ hV) (fun hF4 => ?_); clear hF0)
                  try simp only [Act.put, List.setIfInBounds_toArray, List.set_cons_zero, List.set_cons_succ]
                  refine wpAnyK_step (i := 7) rfl (by kernel_rfl) (by rfl) (fun K hK => ?_)
                  go_simp
                  (refine (qheld_any b1 b2 _ _ nb cb nm cm i bs ms _ (HMS.out.old hV) HN.out (by omega)).mono ?_; rintro e w7 ⟨Bh, ch, rfl, hBh, hR, hB7⟩; have hBL := Nat.le_trans hV.size hBh; (try have hNE : Bh ≠ B := Ne.symm (Nat.ne_of_lt (Nat.lt_of_lt_of_le hA.1.lt hBh))); (try replace hA := hA.old hB7); replace hV := hV.trans (hB7.mono hV.size); clear hB7)
                  (refine hK _ _ (⟨fun _ _ => HF.out _ hV, fun h => absurd h (by decide)⟩) ?_; clear hK K)
                  (refine wpAnyK_with (F := fun W => W.cell? ⟨w.heap.size, 0, none⟩ = some (.slice Ab nb cb) ∧ W.cell? ⟨w.heap.size, 1, none⟩ = some (.slice (some ⟨b2, om, none⟩) nm cm) ∧ W.cell? ⟨b2, om + i * 3, none⟩ = some (.int .i64 (f : Int)) ∧ W.cell? ⟨b2, om + i * 3 + 1, none⟩ = some (.int .i64 (t : Int)) ∧ W.cell? ⟨b2, om + i * 3 + 2, none⟩ = some (.int .i64 g)) (HF.out _ hV) (fun hF5 => ?_); clear hF4)
                  try simp only [Act.put, List.setIfInBounds_toArray, List.set_cons_zero, List.set_cons_succ]
                  refine wpAnyK_step (i := 9) rfl (by kernel_rfl) (by rfl) (fun K hK => ?_)
                  go_simp
                  (have f0 := hA.1.frozen 0; have f1 := hA.1.frozen 1; have f2 := hA.1.frozen 2; have c0 := hA.1.cell 0; have c1 := hA.1.cell 1; have c2 := hA.1.cell 2; (try simp only [World.size_alloc, World.size_drew] at hBe); subst hBe; obtain ⟨hq1, hq2⟩ := hA.store (.int .i64 (f : Int)) (.int .i64 (t : Int)) (.int .i64 g) hV; have hR1 := hR.store3 hNE (.int .i64 (f : Int)) (.int .i64 (t : Int)) (.int .i64 g); obtain ⟨hq3, hq4⟩ := MvB.last hV0 (.int .i64 (f : Int)) (.int .i64 (t : Int)) (.int .i64 g); (try have hR3 := hR0.grown (World.grownBy_alloc _ (.cells #[.int .i64 (f : Int), .int .i64 (t : Int), .int .i64 g] 61) none) (by simp)); (try simp only [World.size_alloc, World.size_drew] at hq3); go_simp)
                  (refine hK _ _ (⟨fun _ _ => (by first | with_reducible exact HF.out _ hq2 | with_reducible exact HF.out _ hq4), fun h => absurd h (by decide)⟩) ?_; clear hK K)
                  (refine wpAnyK_with (F := fun W => W.cell? ⟨w.heap.size, 0, none⟩ = some (.slice Ab nb cb) ∧ W.cell? ⟨w.heap.size, 1, none⟩ = some (.slice (some ⟨b2, om, none⟩) nm cm) ∧ W.cell? ⟨b2, om + i * 3, none⟩ = some (.int .i64 (f : Int)) ∧ W.cell? ⟨b2, om + i * 3 + 1, none⟩ = some (.int .i64 (t : Int)) ∧ W.cell? ⟨b2, om + i * 3 + 2, none⟩ = some (.int .i64 g)) ((by first | with_reducible exact HF.out _ hq2 | with_reducible exact HF.out _ hq4)) (fun hF6 => ?_); clear hF5)
                  try simp only [Act.put, List.setIfInBounds_toArray, List.set_cons_zero, List.set_cons_succ]
                  (refine wpAnyK_takeL Keep2.refl (i := 10) (v := ?_) rfl (by kernel_rfl) (by kernel_rfl) (by kernel_rfl) (fun _ _ _ h => h) (by rfl) ?_ ?_; rotate_left 1; focus (intro w; go_simp; try with_reducible rfl))
                  try simp only [Act.put, List.setIfInBounds_toArray, List.set_cons_zero, List.set_cons_succ]
                  refine wpAnyK_done (by kernel_rfl) ?_ _
                  go_wp2_with fail
                  go_meet
                  refine ⟨_, _, _, rfl, rfl, ?_, ?_, ?_, ?_⟩ <;> with_reducible assumption
              case rest =>
                obtain ⟨Bm, Bh, ch, rfl, rfl, hA, hR, hBhl, hV⟩ := hcut
                have HV := Lib.hid hV
                have HA := Lib.hid hA
                have HR := Lib.hid hR
                have HRB := Lib.hid (fun (u : Nat) (hu : u < k) => (show rb u < wr.heap.size from HS.out.m.ltr hu))
                have HSC := Lib.hid (show QSt w wc Ab (some ⟨b2, om, none⟩) nb cb nm cm Bo k rb (capE (edR bs ms l mv i ++ staysR bs ms i ⟨f, t, g⟩ 0)) from by
                  have e : edR bs ms l mv i ++ staysR bs ms i ⟨f, t, g⟩ 0 = edR bs ms l mv i := by simp [staysR, rg]
                  rw [e]; exact HS.out.old hV)
                have HWR := Lib.hid (show IntKind.i64.wrap ((i : Int) + 1) = (i : Int) + 1 from IntWalk.i64_in _ (by omega))
                have hBml := hA.2
                clear hA hR hV n0 n1 s0 s1 s2
                obtain ⟨wd, rfl⟩ : ∃ wd : World, wd = wc := ⟨_, rfl⟩
                obtain ⟨wq, rfl⟩ : ∃ wq : World, wq = wr := ⟨_, rfl⟩
                go_wp2_with fail
                go_loopw [17] (fun iv wr => ∃ b : Nat, b ≤ nb ∧ iv = .int .i64 b ∧ QSt w wr Ab (some ⟨b2, om, none⟩) nb cb nm cm Bo k rb (capE (edR bs ms l mv i ++ staysR bs ms i ⟨f, t, g⟩ b)) ∧ Blk wr Bm 61 #[.int .i64 (f : Int), .int .i64 (t : Int), .int .i64 g] ∧ RowC wr Bh ((rg nb).map (hasAt (bsF bs) (ms.take i)))) (fun iv _ => nb - (intOf iv).toNat)
                case atStart => exact ⟨0, Nat.zero_le _, rfl, HSC.out, HA.out.1, HR.out⟩
                case round =>
                  obtain ⟨b, hb, rfl, hst, hA, hR⟩ := hrel
                  have HSb := Lib.hid hst
                  have HAb := Lib.hid hA
                  have HRb := Lib.hid hR
                  have m0 := hA.cell 0
                  have m1 := hA.cell 1
                  have m2 := hA.cell 2
                  have hlen := has_len nb (hasAt (bsF bs) (ms.take i))
                  by_cases hlt4 : b < nb
                  · have cb0 := hR.cell (k := b) (by rw [hlen]; omega)
                    rw [has_get hlt4] at cb0
                    obtain ⟨x0, x1⟩ := HN.out.has_bd i (b : Int)
                    generalize hx : hasAt (bsF bs) (ms.take i) (b : Int) = x at cb0 x0 x1
                    have HX := Lib.hid hx
                    obtain ⟨u, hu⟩ : ∃ u : Nat, 1 + b * q + i = u := ⟨_, rfl⟩
                    obtain ⟨v, hv⟩ : ∃ v : Nat, 1 + b * q + (i + 1) = v := ⟨_, rfl⟩
                    have hq1 : q = ms.length + 1 := by rw [HQN.out, HNM.out]
                    have hN1 : k = szR bs.length ms.length := by rw [HNNk.out, HNB.out, HNM.out]
                    obtain ⟨du, huN, hu0⟩ := node_lt hq1 hN1 (by have := HNB.out; omega) (by omega) hu
                    obtain ⟨dv, hvN, hv0⟩ := node_lt hq1 hN1 (by have := HNB.out; omega) (by omega) hv
                    have HCU := Lib.hid (fun W => qnode_at q b i u hu W (by omega) (by omega) (by omega))
                    have HCV := Lib.hid (fun W => qnode_i q b (i + 1) v ((i : Int) + 1) (by omega) hv W (by omega) (by omega) (by omega))
                    have HFR := Lib.hid (stay_fresh (l := l) (mv := mv) HN.out him ⟨f, t, g⟩ (show b < bs.length by have := HNB.out; omega))
                    have HSN := Lib.hid (staysR_snoc bs ms i ⟨f, t, g⟩ b)
                    have HDU := Lib.hid du
                    have HDV := Lib.hid dv
                    have HUV := Lib.hid (And.intro huN hvN)
                    have cru := hst.m.out u huN
                    have cuv := hst.m.at_ huN hvN
                    have fuv := hst.m.frozen huN v
                    have HCR := Lib.hid cru
                    have HCF := Lib.hid (And.intro cuv fuv)
                    have b0 : (0 : Int) ≤ (b : Int) := by omega
                    have b1' : (b : Int) < (nb : Int) := by omega
                    have u0 : (0 : Int) ≤ (u : Int) := by omega
                    have u1 : (u : Int) < (k : Int) := by omega
                    have v0 : (0 : Int) ≤ (v : Int) := by omega
                    have v1 : (v : Int) < (k : Int) := by omega
                    have HNXT := Lib.hid (fun (s : Int) (hs : s = stay (hasAt (bsF bs) (ms.take i)) ⟨f, t, g⟩ b) => (show QSt w (wr.setCell ⟨rb u, v, none⟩ (.int .i64 s)) Ab (some ⟨b2, om, none⟩) nb cb nm cm Bo k rb (capE (edR bs ms l mv i ++ staysR bs ms i ⟨f, t, g⟩ (b + 1))) from by
                      have h := HSb.out.set_ huN hvN s
                      have e := capE_set HFR.out s
                      have e1 := HDU.out
                      have e2 : ndR ms.length (b : Int) ((i + 1 : Nat) : Int) = (v : Int) := HDV.out
                      have e3 := HSN.out
                      rw [← hs] at e3
                      rw [e3, ← List.append_assoc, ← e, e1, e2]
                      exact h))
                    have HKEEP := Lib.hid (fun (s : Int) => (show Blk (wr.setCell ⟨rb u, v, none⟩ (.int .i64 s)) Bm 61 #[.int .i64 (f : Int), .int .i64 (t : Int), .int .i64 g] ∧ RowC (wr.setCell ⟨rb u, v, none⟩ (.int .i64 s)) Bh ((rg nb).map (hasAt (bsF bs) (ms.take i))) from
                      ⟨HAb.out.far (p := ⟨rb u, v, none⟩) (by have := HRB.out u huN; show Bm ≠ rb u; omega) _, HRb.out.far (p := ⟨rb u, v, none⟩) (by have := HRB.out u huN; show Bh ≠ rb u; omega) _⟩))
                    clear hst hA hR hx hu hv hq1 hN1 du dv cru cuv fuv
                    by_cases hbf : b = f
                    · subst hbf
                      have HSX := Lib.hid (show x - g = stay (hasAt (bsF bs) (ms.take i)) ⟨b, t, g⟩ b from by unfold stay; rw [if_pos rfl, HX.out])
                      go_upto_region 22 with fail
                      refine wp_region_PL [6] (fun W => W.cell? ⟨Bo, u, none⟩ = some (.slice (some ⟨rb u, 0, none⟩) k k)) rfl (by kernel_rfl) (HCR.out) (fun hF0 => ?_)
                      (refine wpAnyP_takeL (i := 0) (v := ?_) rfl (by kernel_rfl) (by kernel_rfl) (by kernel_rfl) (fun _ _ _ h => h) (by rfl) ?_ ?_; rotate_left 1; focus (intro w; go_simp; try with_reducible rfl))
                      try simp only [Act.put, List.setIfInBounds_toArray, List.set_cons_zero, List.set_cons_succ]
                      (refine wpAnyP_takeL (i := 1) (v := ?_) rfl (by kernel_rfl) (by kernel_rfl) (by kernel_rfl) (fun _ _ _ h => h) (by rfl) ?_ ?_; rotate_left 1; focus (intro w; go_simp; try with_reducible rfl))
                      try simp only [Act.put, List.setIfInBounds_toArray, List.set_cons_zero, List.set_cons_succ]
                      (refine wpAnyP_takeL (i := 2) (v := ?_) rfl (by kernel_rfl) (by kernel_rfl) (by kernel_rfl) (fun _ _ _ h => h) (by rfl) ?_ ?_; rotate_left 1; focus (intro w; go_simp; try with_reducible rfl))
                      try simp only [Act.put, List.setIfInBounds_toArray, List.set_cons_zero, List.set_cons_succ]
                      (refine wpAnyP_takeL (i := 3) (v := ?_) rfl (by kernel_rfl) (by kernel_rfl) (by kernel_rfl) (fun _ _ _ h => h) (by rfl) ?_ ?_; rotate_left 1; focus (intro w; go_simp; try with_reducible rfl))
                      try simp only [Act.put, List.setIfInBounds_toArray, List.set_cons_zero, List.set_cons_succ]
                      (refine wpAnyP_takeL (i := 7) (v := ?_) rfl (by kernel_rfl) (by kernel_rfl) (by kernel_rfl) (fun _ _ _ h => h) (by rfl) ?_ ?_; rotate_left 1; focus (intro w; go_simp; try with_reducible rfl))
                      try simp only [Act.put, List.setIfInBounds_toArray, List.set_cons_zero, List.set_cons_succ]
                      (refine wpAnyP_takeL (i := 8) (v := ?_) rfl (by kernel_rfl) (by kernel_rfl) (by kernel_rfl) (fun _ _ _ h => h) (by rfl) ?_ ?_; rotate_left 1; focus (intro w; go_simp; try with_reducible rfl))
                      try simp only [Act.put, List.setIfInBounds_toArray, List.set_cons_zero, List.set_cons_succ]
                      (refine wpAnyP_takeL (i := 9) (v := ?_) rfl (by kernel_rfl) (by kernel_rfl) (by kernel_rfl) (fun _ _ _ h => h) (by rfl) ?_ ?_; rotate_left 1; focus (intro w; go_simp; try with_reducible rfl))
                      try simp only [Act.put, List.setIfInBounds_toArray, List.set_cons_zero, List.set_cons_succ]
                      (refine wpAnyP_takeL (i := 10) (v := ?_) rfl (by kernel_rfl) (by kernel_rfl) (by kernel_rfl) (fun _ _ _ h => h) (by rfl) ?_ ?_; rotate_left 1; focus (intro w; go_simp; (first | (rw [HWR.out]) | (with_reducible rfl))))
                      try simp only [Act.put, List.setIfInBounds_toArray, List.set_cons_zero, List.set_cons_succ]
                      (refine wpAnyP_takeL (i := 12) (v := ?_) rfl (by kernel_rfl) (by kernel_rfl) (by kernel_rfl) (fun _ _ _ h => h) (by rfl) ?_ ?_; rotate_left 1; focus (intro w; go_simp; try with_reducible rfl))
                      try simp only [Act.put, List.setIfInBounds_toArray, List.set_cons_zero, List.set_cons_succ]
                      refine wpAnyP_step (i := 4) rfl (by kernel_rfl) (by rfl) (fun K hK => ?_)
                      go_simp
                      (refine (HCU.out _).mono ?_; rintro e w' ⟨rfl, rfl⟩)
                      (refine hK _ _ (HCR.out) (fun hF1 => ?_); clear hK K hF0)
                      try simp only [Act.put, List.setIfInBounds_toArray, List.set_cons_zero, List.set_cons_succ]
                      (refine wpAnyP_takeL (i := 5) (v := ?_) rfl (by kernel_rfl) (by kernel_rfl) (by kernel_rfl) (fun _ _ _ h => h) (by rfl) ?_ ?_; rotate_left 1; focus (intro w; go_simp; try with_reducible rfl))
                      try simp only [Act.put, List.setIfInBounds_toArray, List.set_cons_zero, List.set_cons_succ]
                      (refine wpAnyP_loadL (i := 6) (v := ?_) rfl (by kernel_rfl) (by kernel_rfl) (by kernel_rfl) (by rfl) (fun _ _ _ h => h) hF1 (by rfl) ?_ ?_; rotate_left 1; focus (intro w hFw; (try dsimp only at hFw); go_split_ands; go_simp; try with_reducible rfl))
                      try simp only [Act.put, List.setIfInBounds_toArray, List.set_cons_zero, List.set_cons_succ]
                      refine wpAnyP_step (i := 11) rfl (by kernel_rfl) (by rfl) (fun K hK => ?_)
                      go_simp
                      (refine (HCV.out _).mono ?_; rintro e w' ⟨rfl, rfl⟩)
                      (refine hK _ _ (HCR.out) (fun hF2 => ?_); clear hK K hF1)
                      try simp only [Act.put, List.setIfInBounds_toArray, List.set_cons_zero, List.set_cons_succ]
                      (refine wpAnyP_takeL (i := 13) (v := ?_) rfl (by kernel_rfl) (by kernel_rfl) (by kernel_rfl) (fun _ _ _ h => h) (by rfl) ?_ ?_; rotate_left 1; focus (intro w; go_simp; try with_reducible rfl))
                      try simp only [Act.put, List.setIfInBounds_toArray, List.set_cons_zero, List.set_cons_succ]
                      refine wpAnyP_last (i := 14) rfl (by kernel_rfl) (by kernel_rfl) (by rfl) (fun K hK => ?_)
                      go_simp
                      (have f1 := HCF.out.2; have e1 := HCF.out.1; go_simp; clear f1 e1)
                      (refine hK _ _ ?_; clear hK K)
                      try simp only [Act.put, List.setIfInBounds_toArray, List.set_cons_zero, List.set_cons_succ]
                      refine wpAnyP_done (by kernel_rfl) ?_ _
                      go_wp2_with fail
                      have hx9 := HNXT.out (x - g) HSX.out
                      have hk9 := HKEEP.out (x - g)
                      first
                        | exact ⟨⟨b + 1, by omega, by go_num, hx9.drew, hk9.1, hk9.2⟩, by simp [intOf]; omega⟩
                        | exact ⟨⟨b + 1, by omega, by go_num, hx9, hk9.1, hk9.2⟩, by simp [intOf]; omega⟩
                    · have e1 : ((b : Int) == (f : Int)) = false := by simp; omega
                      have HSX := Lib.hid (show x = stay (hasAt (bsF bs) (ms.take i)) ⟨f, t, g⟩ b from by unfold stay; rw [if_neg (by show ¬ (b : Int) = (f : Int); omega), HX.out]; omega)
                      go_upto_region 22 with fail
                      refine wp_region_PL [6] (fun W => W.cell? ⟨Bo, u, none⟩ = some (.slice (some ⟨rb u, 0, none⟩) k k)) rfl (by kernel_rfl) (HCR.out) (fun hF0 => ?_)
                      (refine wpAnyP_takeL (i := 0) (v := ?_) rfl (by kernel_rfl) (by kernel_rfl) (by kernel_rfl) (fun _ _ _ h => h) (by rfl) ?_ ?_; rotate_left 1; focus (intro w; go_simp; try with_reducible rfl))
                      try simp only [Act.put, List.setIfInBounds_toArray, List.set_cons_zero, List.set_cons_succ]
                      (refine wpAnyP_takeL (i := 1) (v := ?_) rfl (by kernel_rfl) (by kernel_rfl) (by kernel_rfl) (fun _ _ _ h => h) (by rfl) ?_ ?_; rotate_left 1; focus (intro w; go_simp; try with_reducible rfl))
                      try simp only [Act.put, List.setIfInBounds_toArray, List.set_cons_zero, List.set_cons_succ]
                      (refine wpAnyP_takeL (i := 2) (v := ?_) rfl (by kernel_rfl) (by kernel_rfl) (by kernel_rfl) (fun _ _ _ h => h) (by rfl) ?_ ?_; rotate_left 1; focus (intro w; go_simp; try with_reducible rfl))
                      try simp only [Act.put, List.setIfInBounds_toArray, List.set_cons_zero, List.set_cons_succ]
                      (refine wpAnyP_takeL (i := 3) (v := ?_) rfl (by kernel_rfl) (by kernel_rfl) (by kernel_rfl) (fun _ _ _ h => h) (by rfl) ?_ ?_; rotate_left 1; focus (intro w; go_simp; try with_reducible rfl))
                      try simp only [Act.put, List.setIfInBounds_toArray, List.set_cons_zero, List.set_cons_succ]
                      (refine wpAnyP_takeL (i := 7) (v := ?_) rfl (by kernel_rfl) (by kernel_rfl) (by kernel_rfl) (fun _ _ _ h => h) (by rfl) ?_ ?_; rotate_left 1; focus (intro w; go_simp; try with_reducible rfl))
                      try simp only [Act.put, List.setIfInBounds_toArray, List.set_cons_zero, List.set_cons_succ]
                      (refine wpAnyP_takeL (i := 8) (v := ?_) rfl (by kernel_rfl) (by kernel_rfl) (by kernel_rfl) (fun _ _ _ h => h) (by rfl) ?_ ?_; rotate_left 1; focus (intro w; go_simp; try with_reducible rfl))
                      try simp only [Act.put, List.setIfInBounds_toArray, List.set_cons_zero, List.set_cons_succ]
                      (refine wpAnyP_takeL (i := 9) (v := ?_) rfl (by kernel_rfl) (by kernel_rfl) (by kernel_rfl) (fun _ _ _ h => h) (by rfl) ?_ ?_; rotate_left 1; focus (intro w; go_simp; try with_reducible rfl))
                      try simp only [Act.put, List.setIfInBounds_toArray, List.set_cons_zero, List.set_cons_succ]
                      (refine wpAnyP_takeL (i := 10) (v := ?_) rfl (by kernel_rfl) (by kernel_rfl) (by kernel_rfl) (fun _ _ _ h => h) (by rfl) ?_ ?_; rotate_left 1; focus (intro w; go_simp; (first | (rw [HWR.out]) | (with_reducible rfl))))
                      try simp only [Act.put, List.setIfInBounds_toArray, List.set_cons_zero, List.set_cons_succ]
                      (refine wpAnyP_takeL (i := 12) (v := ?_) rfl (by kernel_rfl) (by kernel_rfl) (by kernel_rfl) (fun _ _ _ h => h) (by rfl) ?_ ?_; rotate_left 1; focus (intro w; go_simp; try with_reducible rfl))
                      try simp only [Act.put, List.setIfInBounds_toArray, List.set_cons_zero, List.set_cons_succ]
                      refine wpAnyP_step (i := 4) rfl (by kernel_rfl) (by rfl) (fun K hK => ?_)
                      go_simp
                      (refine (HCU.out _).mono ?_; rintro e w' ⟨rfl, rfl⟩)
                      (refine hK _ _ (HCR.out) (fun hF1 => ?_); clear hK K hF0)
                      try simp only [Act.put, List.setIfInBounds_toArray, List.set_cons_zero, List.set_cons_succ]
                      (refine wpAnyP_takeL (i := 5) (v := ?_) rfl (by kernel_rfl) (by kernel_rfl) (by kernel_rfl) (fun _ _ _ h => h) (by rfl) ?_ ?_; rotate_left 1; focus (intro w; go_simp; try with_reducible rfl))
                      try simp only [Act.put, List.setIfInBounds_toArray, List.set_cons_zero, List.set_cons_succ]
                      (refine wpAnyP_loadL (i := 6) (v := ?_) rfl (by kernel_rfl) (by kernel_rfl) (by kernel_rfl) (by rfl) (fun _ _ _ h => h) hF1 (by rfl) ?_ ?_; rotate_left 1; focus (intro w hFw; (try dsimp only at hFw); go_split_ands; go_simp; try with_reducible rfl))
                      try simp only [Act.put, List.setIfInBounds_toArray, List.set_cons_zero, List.set_cons_succ]
                      refine wpAnyP_step (i := 11) rfl (by kernel_rfl) (by rfl) (fun K hK => ?_)
                      go_simp
                      (refine (HCV.out _).mono ?_; rintro e w' ⟨rfl, rfl⟩)
                      (refine hK _ _ (HCR.out) (fun hF2 => ?_); clear hK K hF1)
                      try simp only [Act.put, List.setIfInBounds_toArray, List.set_cons_zero, List.set_cons_succ]
                      (refine wpAnyP_takeL (i := 13) (v := ?_) rfl (by kernel_rfl) (by kernel_rfl) (by kernel_rfl) (fun _ _ _ h => h) (by rfl) ?_ ?_; rotate_left 1; focus (intro w; go_simp; try with_reducible rfl))
                      try simp only [Act.put, List.setIfInBounds_toArray, List.set_cons_zero, List.set_cons_succ]
                      refine wpAnyP_last (i := 14) rfl (by kernel_rfl) (by kernel_rfl) (by rfl) (fun K hK => ?_)
                      go_simp
                      (have f1 := HCF.out.2; have e1 := HCF.out.1; go_simp; clear f1 e1)
                      (refine hK _ _ ?_; clear hK K)
                      try simp only [Act.put, List.setIfInBounds_toArray, List.set_cons_zero, List.set_cons_succ]
                      refine wpAnyP_done (by kernel_rfl) ?_ _
                      go_wp2_with fail
                      have hx9 := HNXT.out x HSX.out
                      have hk9 := HKEEP.out x
                      first
                        | exact ⟨⟨b + 1, by omega, by go_num, hx9.drew, hk9.1, hk9.2⟩, by simp [intOf]; omega⟩
                        | exact ⟨⟨b + 1, by omega, by go_num, hx9, hk9.1, hk9.2⟩, by simp [intOf]; omega⟩
                  · obtain rfl : b = nb := by omega
                    have hq1 : q = ms.length + 1 := by rw [HQN.out, HNM.out]
                    have hN1 : k = szR bs.length ms.length := by rw [HNNk.out, HNB.out, HNM.out]
                    obtain ⟨u, hu⟩ : ∃ u : Nat, 1 + f * q + i = u := ⟨_, rfl⟩
                    obtain ⟨v, hv⟩ : ∃ v : Nat, 1 + t * q + (i + 1) = v := ⟨_, rfl⟩
                    obtain ⟨du, huN, hu0⟩ := node_lt hq1 hN1 (by have := HNB.out; omega) (by omega) hu
                    obtain ⟨dv, hvN, hv0⟩ := node_lt hq1 hN1 (by have := HNB.out; omega) (by omega) hv
                    have HCU := Lib.hid (fun W => qnode_at q f i u hu W (by omega) (by omega) (by omega))
                    have HCV := Lib.hid (fun W => qnode_i q t (i + 1) v ((i : Int) + 1) (by omega) hv W (by omega) (by omega) (by omega))
                    have HFR := Lib.hid (move_fresh (l := l) (mv := mv) HN.out him ⟨f, t, g⟩ ⟨by show 0 ≤ (f : Int); omega, by show (f : Int) < _; have := HNB.out; omega, by show 0 ≤ (t : Int); omega, by show (t : Int) < _; have := HNB.out; omega, hne⟩)
                    have HDU := Lib.hid du
                    have HDV := Lib.hid dv
                    have HHU := Lib.hid huN
                    clear hq1 hN1 du dv hu hv hA hR hst
                    have u0 : (0 : Int) ≤ (u : Int) := by omega
                    have u1 : (u : Int) < (k : Int) := by omega
                    have v0 : (0 : Int) ≤ (v : Int) := by omega
                    have v1 : (v : Int) < (k : Int) := by omega
                    have HVN := Lib.hid hvN
                    by_cases hmv : (i : Int) = mv
                    · have em : ((i : Int) == mv) = true := by simp [hmv]
                      obtain ⟨z, hz⟩ : ∃ z : Nat, (k : Int) - 1 = (z : Int) := ⟨k - 1, by omega⟩
                      have hzk : z = k - 1 := by omega
                      have HZK := Lib.hid hzk
                      have HMV := Lib.hid hmv
                      have z0 : (0 : Int) ≤ (z : Int) := by omega
                      have z1 : (z : Int) < (k : Int) := by omega
                      have HZL := Lib.hid (show z < k by omega)
                      have HZE := Lib.hid hz
                      clear hz hzk hmv
                      go_upto_region 26 with (go_at_call 88; refine (HCV.out _).mono ?_; rintro e w' ⟨rfl, hw'⟩; obtain rfl := hw'.symm)
                      rw [HZE.out]
                      have cru := HSb.out.m.out u HHU.out
                      have cuv := HSb.out.m.at_ (v := z) HHU.out HZL.out
                      have fuv := HSb.out.m.frozen HHU.out z
                      have HLD := Lib.hid (And.intro m0 (And.intro m2 cru))
                      have HCF := Lib.hid (And.intro cuv fuv)
                      have HNXT := Lib.hid (show QSt w (wr.setCell ⟨rb u, z, none⟩ (.int .i64 g)) Ab (some ⟨b2, om, none⟩) b cb nm cm Bo k rb (capE (edR bs ms l mv (i + 1))) from by
                        have h := HSb.out.set_ HHU.out HZL.out g
                        have e := capE_set HFR.out g
                        have e1 := HDU.out
                        have e2 : toR bs ms mv i ⟨f, t, g⟩ = ((z : Nat) : Int) := by unfold toR; rw [if_pos HMV.out, HZK.out, HNNk.out, HNB.out, HNM.out]; rfl
                        have e3 := HSTEP.out
                        rw [e3, ← e, e1, e2, ← HNB.out]
                        exact h)
                      clear cru cuv fuv
                      refine wp_region_PL [3, 7, 10] (fun W => W.cell? ⟨Bm, 0, none⟩ = some (.int .i64 (f : Int)) ∧ W.cell? ⟨Bm, 2, none⟩ = some (.int .i64 g) ∧ W.cell? ⟨Bo, u, none⟩ = some (.slice (some ⟨rb u, 0, none⟩) k k)) rfl (by kernel_rfl) (HLD.out) (fun hF0 => ?_)
                      (refine wpAnyP_takeL (i := 0) (v := ?_) rfl (by kernel_rfl) (by kernel_rfl) (by kernel_rfl) (fun _ _ _ h => h) (by rfl) ?_ ?_; rotate_left 1; focus (intro w; go_simp; try with_reducible rfl))
                      try simp only [Act.put, List.setIfInBounds_toArray, List.set_cons_zero, List.set_cons_succ]
                      (refine wpAnyP_takeL (i := 1) (v := ?_) rfl (by kernel_rfl) (by kernel_rfl) (by kernel_rfl) (fun _ _ _ h => h) (by rfl) ?_ ?_; rotate_left 1; focus (intro w; go_simp; try with_reducible rfl))
                      try simp only [Act.put, List.setIfInBounds_toArray, List.set_cons_zero, List.set_cons_succ]
                      (refine wpAnyP_takeL (i := 2) (v := ?_) rfl (by kernel_rfl) (by kernel_rfl) (by kernel_rfl) (fun _ _ _ h => h) (by rfl) ?_ ?_; rotate_left 1; focus (intro w; go_simp; try with_reducible rfl))
                      try simp only [Act.put, List.setIfInBounds_toArray, List.set_cons_zero, List.set_cons_succ]
                      (refine wpAnyP_loadL (i := 3) (v := ?_) rfl (by kernel_rfl) (by kernel_rfl) (by kernel_rfl) (by rfl) (fun _ _ _ h => h) hF0 (by rfl) ?_ ?_; rotate_left 1; focus (intro w hFw; (try dsimp only at hFw); go_split_ands; go_simp; try with_reducible rfl))
                      try simp only [Act.put, List.setIfInBounds_toArray, List.set_cons_zero, List.set_cons_succ]
                      (refine wpAnyP_takeL (i := 4) (v := ?_) rfl (by kernel_rfl) (by kernel_rfl) (by kernel_rfl) (fun _ _ _ h => h) (by rfl) ?_ ?_; rotate_left 1; focus (intro w; go_simp; try with_reducible rfl))
                      try simp only [Act.put, List.setIfInBounds_toArray, List.set_cons_zero, List.set_cons_succ]
                      (refine wpAnyP_takeL (i := 8) (v := ?_) rfl (by kernel_rfl) (by kernel_rfl) (by kernel_rfl) (fun _ _ _ h => h) (by rfl) ?_ ?_; rotate_left 1; focus (intro w; go_simp; try with_reducible rfl))
                      try simp only [Act.put, List.setIfInBounds_toArray, List.set_cons_zero, List.set_cons_succ]
                      (refine wpAnyP_takeL (i := 9) (v := ?_) rfl (by kernel_rfl) (by kernel_rfl) (by kernel_rfl) (fun _ _ _ h => h) (by rfl) ?_ ?_; rotate_left 1; focus (intro w; go_simp; try with_reducible rfl))
                      try simp only [Act.put, List.setIfInBounds_toArray, List.set_cons_zero, List.set_cons_succ]
                      (refine wpAnyP_loadL (i := 10) (v := ?_) rfl (by kernel_rfl) (by kernel_rfl) (by kernel_rfl) (by rfl) (fun _ _ _ h => h) hF0 (by rfl) ?_ ?_; rotate_left 1; focus (intro w hFw; (try dsimp only at hFw); go_split_ands; go_simp; try with_reducible rfl))
                      try simp only [Act.put, List.setIfInBounds_toArray, List.set_cons_zero, List.set_cons_succ]
                      refine wpAnyP_step (i := 5) rfl (by kernel_rfl) (by rfl) (fun K hK => ?_)
                      go_simp
                      (refine (HCU.out _).mono ?_; rintro e w' ⟨rfl, rfl⟩)
                      (refine hK _ _ (HLD.out) (fun hF1 => ?_); clear hK K hF0)
                      try simp only [Act.put, List.setIfInBounds_toArray, List.set_cons_zero, List.set_cons_succ]
                      (refine wpAnyP_takeL (i := 6) (v := ?_) rfl (by kernel_rfl) (by kernel_rfl) (by kernel_rfl) (fun _ _ _ h => h) (by rfl) ?_ ?_; rotate_left 1; focus (intro w; go_simp; try with_reducible rfl))
                      try simp only [Act.put, List.setIfInBounds_toArray, List.set_cons_zero, List.set_cons_succ]
                      (refine wpAnyP_loadL (i := 7) (v := ?_) rfl (by kernel_rfl) (by kernel_rfl) (by kernel_rfl) (by rfl) (fun _ _ _ h => h) hF1 (by rfl) ?_ ?_; rotate_left 1; focus (intro w hFw; (try dsimp only at hFw); go_split_ands; go_simp; try with_reducible rfl))
                      try simp only [Act.put, List.setIfInBounds_toArray, List.set_cons_zero, List.set_cons_succ]
                      (refine wpAnyP_takeL (i := 11) (v := ?_) rfl (by kernel_rfl) (by kernel_rfl) (by kernel_rfl) (fun _ _ _ h => h) (by rfl) ?_ ?_; rotate_left 1; focus (intro w; go_simp; try with_reducible rfl))
                      try simp only [Act.put, List.setIfInBounds_toArray, List.set_cons_zero, List.set_cons_succ]
                      refine wpAnyP_last (i := 12) rfl (by kernel_rfl) (by kernel_rfl) (by rfl) (fun K hK => ?_)
                      go_simp
                      (have f1 := HCF.out.2; have e1 := HCF.out.1; go_simp; clear f1 e1)
                      (refine hK _ _ ?_; clear hK K)
                      try simp only [Act.put, List.setIfInBounds_toArray, List.set_cons_zero, List.set_cons_succ]
                      refine wpAnyP_done (by kernel_rfl) ?_ _
                      go_wp2_with fail
                      first
                        | exact ⟨⟨i + 1, by omega, by go_num, HNXT.out.drew⟩, by simp [intOf]; omega⟩
                        | exact ⟨⟨i + 1, by omega, by go_num, HNXT.out⟩, by simp [intOf]; omega⟩
                    · have em : ((i : Int) == mv) = false := by simp [hmv]
                      have HMV := Lib.hid hmv
                      clear hmv
                      go_upto_region 26 with (go_at_call 88; refine (HCV.out _).mono ?_; rintro e w' ⟨rfl, hw'⟩; obtain rfl := hw'.symm)
                      have cru := HSb.out.m.out u HHU.out
                      have cuv := HSb.out.m.at_ (v := v) HHU.out HVN.out
                      have fuv := HSb.out.m.frozen HHU.out v
                      have HLD := Lib.hid (And.intro m0 (And.intro m2 cru))
                      have HCF := Lib.hid (And.intro cuv fuv)
                      have HNXT := Lib.hid (show QSt w (wr.setCell ⟨rb u, v, none⟩ (.int .i64 g)) Ab (some ⟨b2, om, none⟩) b cb nm cm Bo k rb (capE (edR bs ms l mv (i + 1))) from by
                        have h := HSb.out.set_ HHU.out HVN.out g
                        have e := capE_set HFR.out g
                        have e1 := HDU.out
                        have e2 : toR bs ms mv i ⟨f, t, g⟩ = ((v : Nat) : Int) := by unfold toR; rw [if_neg HMV.out]; exact HDV.out
                        have e3 := HSTEP.out
                        rw [e3, ← e, e1, e2, ← HNB.out]
                        exact h)
                      clear cru cuv fuv
                      refine wp_region_PL [3, 7, 10] (fun W => W.cell? ⟨Bm, 0, none⟩ = some (.int .i64 (f : Int)) ∧ W.cell? ⟨Bm, 2, none⟩ = some (.int .i64 g) ∧ W.cell? ⟨Bo, u, none⟩ = some (.slice (some ⟨rb u, 0, none⟩) k k)) rfl (by kernel_rfl) (HLD.out) (fun hF0 => ?_)
                      (refine wpAnyP_takeL (i := 0) (v := ?_) rfl (by kernel_rfl) (by kernel_rfl) (by kernel_rfl) (fun _ _ _ h => h) (by rfl) ?_ ?_; rotate_left 1; focus (intro w; go_simp; try with_reducible rfl))
                      try simp only [Act.put, List.setIfInBounds_toArray, List.set_cons_zero, List.set_cons_succ]
                      (refine wpAnyP_takeL (i := 1) (v := ?_) rfl (by kernel_rfl) (by kernel_rfl) (by kernel_rfl) (fun _ _ _ h => h) (by rfl) ?_ ?_; rotate_left 1; focus (intro w; go_simp; try with_reducible rfl))
                      try simp only [Act.put, List.setIfInBounds_toArray, List.set_cons_zero, List.set_cons_succ]
                      (refine wpAnyP_takeL (i := 2) (v := ?_) rfl (by kernel_rfl) (by kernel_rfl) (by kernel_rfl) (fun _ _ _ h => h) (by rfl) ?_ ?_; rotate_left 1; focus (intro w; go_simp; try with_reducible rfl))
                      try simp only [Act.put, List.setIfInBounds_toArray, List.set_cons_zero, List.set_cons_succ]
                      (refine wpAnyP_loadL (i := 3) (v := ?_) rfl (by kernel_rfl) (by kernel_rfl) (by kernel_rfl) (by rfl) (fun _ _ _ h => h) hF0 (by rfl) ?_ ?_; rotate_left 1; focus (intro w hFw; (try dsimp only at hFw); go_split_ands; go_simp; try with_reducible rfl))
                      try simp only [Act.put, List.setIfInBounds_toArray, List.set_cons_zero, List.set_cons_succ]
                      (refine wpAnyP_takeL (i := 4) (v := ?_) rfl (by kernel_rfl) (by kernel_rfl) (by kernel_rfl) (fun _ _ _ h => h) (by rfl) ?_ ?_; rotate_left 1; focus (intro w; go_simp; try with_reducible rfl))
                      try simp only [Act.put, List.setIfInBounds_toArray, List.set_cons_zero, List.set_cons_succ]
                      (refine wpAnyP_takeL (i := 8) (v := ?_) rfl (by kernel_rfl) (by kernel_rfl) (by kernel_rfl) (fun _ _ _ h => h) (by rfl) ?_ ?_; rotate_left 1; focus (intro w; go_simp; try with_reducible rfl))
                      try simp only [Act.put, List.setIfInBounds_toArray, List.set_cons_zero, List.set_cons_succ]
                      (refine wpAnyP_takeL (i := 9) (v := ?_) rfl (by kernel_rfl) (by kernel_rfl) (by kernel_rfl) (fun _ _ _ h => h) (by rfl) ?_ ?_; rotate_left 1; focus (intro w; go_simp; try with_reducible rfl))
                      try simp only [Act.put, List.setIfInBounds_toArray, List.set_cons_zero, List.set_cons_succ]
                      (refine wpAnyP_loadL (i := 10) (v := ?_) rfl (by kernel_rfl) (by kernel_rfl) (by kernel_rfl) (by rfl) (fun _ _ _ h => h) hF0 (by rfl) ?_ ?_; rotate_left 1; focus (intro w hFw; (try dsimp only at hFw); go_split_ands; go_simp; try with_reducible rfl))
                      try simp only [Act.put, List.setIfInBounds_toArray, List.set_cons_zero, List.set_cons_succ]
                      refine wpAnyP_step (i := 5) rfl (by kernel_rfl) (by rfl) (fun K hK => ?_)
                      go_simp
                      (refine (HCU.out _).mono ?_; rintro e w' ⟨rfl, rfl⟩)
                      (refine hK _ _ (HLD.out) (fun hF1 => ?_); clear hK K hF0)
                      try simp only [Act.put, List.setIfInBounds_toArray, List.set_cons_zero, List.set_cons_succ]
                      (refine wpAnyP_takeL (i := 6) (v := ?_) rfl (by kernel_rfl) (by kernel_rfl) (by kernel_rfl) (fun _ _ _ h => h) (by rfl) ?_ ?_; rotate_left 1; focus (intro w; go_simp; try with_reducible rfl))
                      try simp only [Act.put, List.setIfInBounds_toArray, List.set_cons_zero, List.set_cons_succ]
                      (refine wpAnyP_loadL (i := 7) (v := ?_) rfl (by kernel_rfl) (by kernel_rfl) (by kernel_rfl) (by rfl) (fun _ _ _ h => h) hF1 (by rfl) ?_ ?_; rotate_left 1; focus (intro w hFw; (try dsimp only at hFw); go_split_ands; go_simp; try with_reducible rfl))
                      try simp only [Act.put, List.setIfInBounds_toArray, List.set_cons_zero, List.set_cons_succ]
                      (refine wpAnyP_takeL (i := 11) (v := ?_) rfl (by kernel_rfl) (by kernel_rfl) (by kernel_rfl) (fun _ _ _ h => h) (by rfl) ?_ ?_; rotate_left 1; focus (intro w; go_simp; try with_reducible rfl))
                      try simp only [Act.put, List.setIfInBounds_toArray, List.set_cons_zero, List.set_cons_succ]
                      refine wpAnyP_last (i := 12) rfl (by kernel_rfl) (by kernel_rfl) (by rfl) (fun K hK => ?_)
                      go_simp
                      (have f1 := HCF.out.2; have e1 := HCF.out.1; go_simp; clear f1 e1)
                      (refine hK _ _ ?_; clear hK K)
                      try simp only [Act.put, List.setIfInBounds_toArray, List.set_cons_zero, List.set_cons_succ]
                      refine wpAnyP_done (by kernel_rfl) ?_ _
                      go_wp2_with fail
                      first
                        | exact ⟨⟨i + 1, by omega, by go_num, HNXT.out.drew⟩, by simp [intOf]; omega⟩
                        | exact ⟨⟨i + 1, by omega, by go_num, HNXT.out⟩, by simp [intOf]; omega⟩
            · obtain rfl : i = nm := by omega
              have HSE := Lib.hid (show QSt w wr Ab Am nb cb i cm Bo k rb (capE (edR bs ms l mv ms.length)) from by have h := HS.out; rw [← HNM.out]; exact h)
              clear HS1 HS
              by_cases hbt : 0 ≤ batch
              · obtain ⟨bt, rfl⟩ := Int.eq_ofNat_of_zero_le hbt
                have hq1 : q = ms.length + 1 := by rw [HQN.out, HNM.out]
                have hN1 : k = szR bs.length ms.length := by rw [HNNk.out, HNB.out, HNM.out]
                obtain ⟨u, hu⟩ : ∃ u : Nat, 1 + bt * q + i = u := ⟨_, rfl⟩
                obtain ⟨du, huN, hu0⟩ := node_lt hq1 hN1 (by omega) (by have := HNM.out; omega) hu
                have HCU := Lib.hid (fun W => qnode_i q bt i u ((q : Int) - 1) (by have := HQN.out; omega) hu W (by omega) (by have := hb1; have := HNB.out; omega) (by omega))
                obtain ⟨z, hz⟩ : ∃ z : Nat, (k : Int) - 1 = (z : Int) := ⟨k - 1, by omega⟩
                have hzk : z < k := by omega
                have HZE := Lib.hid hz
                have cru := HSE.out.m.out u huN
                have cuv := HSE.out.m.at_ (v := z) huN hzk
                have fuv := HSE.out.m.frozen huN z
                have HQA := Lib.hid (show QSt w (wr.setCell ⟨rb u, z, none⟩ (.int .i64 8000000)) Ab Am nb cb i cm Bo k rb (capE (edAll bs ms l bt mv)) from by
                  have h := HSE.out.set_ huN hzk 8000000
                  have e := capE_set (last_fresh (l := l) (mv := mv) HN.out (by omega : (0 : Int) ≤ (bt : Int)) hb1) 8000000
                  have e1 : ndR ms.length (bt : Int) (ms.length : Int) = (u : Int) := by rw [← HNM.out]; rw [← HNM.out] at du; exact du
                  have e2 : zR bs.length ms.length = (z : Int) := by rw [← hz, HNNk.out, HNB.out, HNM.out, zR_eq]; unfold szR; omega
                  rw [edAll_b _ _ _ hbt, ← e, e1, e2]
                  exact h)
                have u0 : (0 : Int) ≤ (u : Int) := by omega
                have u1 : (u : Int) < (k : Int) := by omega
                have z0 : (0 : Int) ≤ (z : Int) := by omega
                have z1 : (z : Int) < (k : Int) := by omega
                clear hq1 hN1 hu du
                go_wp2_with (go_at_call 88; refine (HCU.out _).mono ?_; rintro e w' ⟨rfl, hw'⟩; obtain rfl := hw'.symm)
                refine (qpush_any (w.heap.size + 1) Bo k c rb _ _ HQA.out.m (by omega) (by omega) (fun u v => by have := HC.out.bd u v; omega)).mono ?_
                rintro e w1 ⟨n, R', rfl, hp, hn9, hm1, hb1'⟩
                have HB1 := Lib.hid (HQA.out.b.trans (hb1'.mono (by omega)))
                have HP1 := Lib.hid (HC.out.push (by rw [← HNB.out, ← HNM.out, ← HNNk.out]; exact hp))
                have HM1 := Lib.hid hm1
                have HN0 := Lib.hid hp.n0
                have HBL := Lib.hid HC.out.best_le
                clear hp hm1 hb1' HQA
                go_wp2_with fail
                go_loopw [20, 21] (fun sv mv' wr => ∃ (tot x : Int) (R : Int → Int → Int), sv = .int .i64 tot ∧ mv' = .int .i64 x ∧ 0 ≤ tot ∧ 0 ≤ x ∧ x ≤ 4000000000 ∧ ComeR bs.length ms.length (edAll bs ms l (bt : Int) mv) best R (tot + x) ∧ (x = 0 → tot = best) ∧ Mat wr (w.heap.size + 1) Bo rb k R ∧ Below w.heap.size w wr) (fun sv _ _ => (best - intOf sv).toNat)
                case atStart => exact ⟨0, n, R', rfl, rfl, by decide, HN0.out, hn9, HP1.out.1, HP1.out.2, HM1.out, HB1.out⟩
                case round =>
                  obtain ⟨tot, x, R, rfl, rfl, ht0, hx0, hx9, hcm, hxe, hmt, hbl⟩ := hrel
                  have HCM := Lib.hid hcm
                  have HXE := Lib.hid hxe
                  have HMT := Lib.hid hmt
                  have HBW := Lib.hid hbl
                  have hle := hcm.le
                  have hbest := HBL.out
                  clear hcm hxe hmt hbl
                  by_cases hpos : 0 < x
                  · go_wp2_with fail
                    refine (qpush_any (w.heap.size + 1) Bo k c rb R _ HMT.out (by omega) (by omega) (fun u v => by have := HCM.out.bd u v; omega)).mono ?_
                    rintro e w2 ⟨n2, R2, rfl, hp, hn9', hm1, hb1'⟩
                    have HB2 := Lib.hid (HBW.out.trans (hb1'.mono (by omega)))
                    have HP2 := Lib.hid (HCM.out.push (by rw [← HNB.out, ← HNM.out, ← HNNk.out]; exact hp))
                    have HM2 := Lib.hid hm1
                    have HN2' := Lib.hid hp.n0
                    clear hp hm1 hb1'
                    go_wp2_with fail
                    exact ⟨⟨tot + x, n2, R2, rfl, rfl, by omega, HN2'.out, hn9', HP2.out.1, HP2.out.2, HM2.out, HB2.out⟩, by simp [intOf]; omega⟩
                  · have HEQ := Lib.hid (HXE.out (by omega))
                    go_wp2_with fail
                    go_ret
                    exact ⟨ret_int HEQ.out, HBW.out⟩
              · obtain rfl : batch = -1 := by omega
                have HQA := Lib.hid (show QSt w wr Ab Am nb cb i cm Bo k rb (capE (edAll bs ms l (-1) mv)) from by rw [edAll_m _ _ _ hbt]; exact HSE.out)
                go_wp2_with fail
                refine (qpush_any (w.heap.size + 1) Bo k c rb _ _ HQA.out.m (by omega) (by omega) (fun u v => by have := HC.out.bd u v; omega)).mono ?_
                rintro e w1 ⟨n, R', rfl, hp, hn9, hm1, hb1'⟩
                have HB1 := Lib.hid (HQA.out.b.trans (hb1'.mono (by omega)))
                have HP1 := Lib.hid (HC.out.push (by rw [← HNB.out, ← HNM.out, ← HNNk.out]; exact hp))
                have HM1 := Lib.hid hm1
                have HN0 := Lib.hid hp.n0
                have HBL := Lib.hid HC.out.best_le
                clear hp hm1 hb1' HQA
                go_wp2_with fail
                go_loopw [20, 21] (fun sv mv' wr => ∃ (tot x : Int) (R : Int → Int → Int), sv = .int .i64 tot ∧ mv' = .int .i64 x ∧ 0 ≤ tot ∧ 0 ≤ x ∧ x ≤ 4000000000 ∧ ComeR bs.length ms.length (edAll bs ms l (-1) mv) best R (tot + x) ∧ (x = 0 → tot = best) ∧ Mat wr (w.heap.size + 1) Bo rb k R ∧ Below w.heap.size w wr) (fun sv _ _ => (best - intOf sv).toNat)
                case atStart => exact ⟨0, n, R', rfl, rfl, by decide, HN0.out, hn9, HP1.out.1, HP1.out.2, HM1.out, HB1.out⟩
                case round =>
                  obtain ⟨tot, x, R, rfl, rfl, ht0, hx0, hx9, hcm, hxe, hmt, hbl⟩ := hrel
                  have HCM := Lib.hid hcm
                  have HXE := Lib.hid hxe
                  have HMT := Lib.hid hmt
                  have HBW := Lib.hid hbl
                  have hle := hcm.le
                  have hbest := HBL.out
                  clear hcm hxe hmt hbl
                  by_cases hpos : 0 < x
                  · go_wp2_with fail
                    refine (qpush_any (w.heap.size + 1) Bo k c rb R _ HMT.out (by omega) (by omega) (fun u v => by have := HCM.out.bd u v; omega)).mono ?_
                    rintro e w2 ⟨n2, R2, rfl, hp, hn9', hm1, hb1'⟩
                    have HB2 := Lib.hid (HBW.out.trans (hb1'.mono (by omega)))
                    have HP2 := Lib.hid (HCM.out.push (by rw [← HNB.out, ← HNM.out, ← HNNk.out]; exact hp))
                    have HM2 := Lib.hid hm1
                    have HN2' := Lib.hid hp.n0
                    clear hp hm1 hb1'
                    go_wp2_with fail
                    exact ⟨⟨tot + x, n2, R2, rfl, rfl, by omega, HN2'.out, hn9', HP2.out.1, HP2.out.2, HM2.out, HB2.out⟩, by simp [intOf]; omega⟩
                  · have HEQ := Lib.hid (HXE.out (by omega))
                    go_wp2_with fail
                    go_ret
                    exact ⟨ret_int HEQ.out, HBW.out⟩
end Go.Proofs.Ytkphgdkjjklajaa
