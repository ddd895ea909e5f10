/-
  How the reference finds a way on which there is room, in plain words: the places in the order in which they are come to, each with the one before it. The places of the program's net, and how much may be between two of them.
-/
import Derived.Test.YtmoolcpogilgkaaMost
import Derived.Test.YtmoolcpogilgkaaTrEdges
import Derived.Test.YtmoolcpogilgkaaPushLaw
set_option linter.unusedVariables false
set_option linter.unusedSimpArgs false
namespace Go.Proofs.Ytmoolcpogilgkaa

/-- the number at a place of a list -/
def at0 (l : List Int) (v : Int) : Int := l.getD v.toNat 0
theorem at0_get {l : List Int} {k : Nat} (h : k < l.length) : at0 l k = l[k] := by
  unfold at0; rw [Int.toNat_natCast, List.getD_eq_getElem?_getD, List.getElem?_eq_getElem h]; rfl
theorem at0_set {l : List Int} {k : Nat} (h : k < l.length) (x v : Int) (hv : 0 ≤ v) : at0 (l.set k x) v = if v = k then x else at0 l v := by
  unfold at0
  rw [List.getD_eq_getElem?_getD, List.getD_eq_getElem?_getD, List.getElem?_set]
  by_cases e : v = (k : Int)
  · subst e; rw [if_pos rfl]; simp [h]
  · rw [if_neg e, if_neg (by omega)]

structure Bfs (R : Int → Int → Int) (N : Nat) (fr q : List Int) : Prop where
  len : fr.length = N
  z : q[0]? = some 0
  nd : q.Nodup
  rg : ∀ v ∈ q, 0 ≤ v ∧ v < N
  out : ∀ v : Int, 0 ≤ v → v < N → (v ∉ q ∨ v = 0) → at0 fr v = -1
  par : ∀ (j : Nat) (h : j < q.length), 0 < j → ∃ (i : Nat) (hi : i < j), at0 fr q[j] = q[i]'(by omega) ∧ 0 < R (q[i]'(by omega)) q[j]
theorem Bfs.start (R : Int → Int → Int) {N : Nat} (h : 0 < N) : Bfs R N (List.replicate N (-1)) [0] where
  len := by simp
  z := rfl
  nd := by simp
  rg v hv := by simp at hv; subst hv; omega
  out v h0 h1 _ := by
    obtain ⟨k, rfl⟩ := Int.eq_ofNat_of_zero_le h0
    rw [at0_get (by simp; omega)]; simp
  par j hj h0 := by simp at hj; omega
theorem Bfs.pos {R : Int → Int → Int} {N : Nat} {fr q : List Int} (h : Bfs R N fr q) : 0 < q.length := (List.getElem?_eq_some_iff.1 h.z).1
theorem Bfs.hd {R : Int → Int → Int} {N : Nat} {fr q : List Int} (h : Bfs R N fr q) : q[0]'h.pos = 0 := (List.getElem?_eq_some_iff.1 h.z).2
theorem Bfs.par_in {R : Int → Int → Int} {N : Nat} {fr q : List Int} (h : Bfs R N fr q) {v : Int} (hv : v ∈ q) (h0 : v ≠ 0) : 0 ≤ at0 fr v ∧ at0 fr v ∈ q := by
  obtain ⟨j, hj, rfl⟩ := List.getElem_of_mem hv
  have hj0 : 0 < j := by
    rcases Nat.eq_zero_or_pos j with rfl | h1
    · exact absurd h.hd h0
    · exact h1
  obtain ⟨i, hi, e1, e2⟩ := h.par j hj hj0
  rw [e1]
  exact ⟨(h.rg _ (List.getElem_mem _)).1, List.getElem_mem _⟩
/-- come to or not -/
theorem Bfs.met {R : Int → Int → Int} {N : Nat} {fr q : List Int} (h : Bfs R N fr q) {v : Int} (h0 : 1 ≤ v) (h1 : v < N) : at0 fr v < 0 ↔ v ∉ q := by
  constructor
  · intro h2 h3
    have := (h.par_in h3 (by omega)).1
    omega
  · intro h2
    rw [h.out v (by omega) h1 (Or.inl h2)]; decide
theorem Bfs.push {R : Int → Int → Int} {N : Nat} {fr q : List Int} (h : Bfs R N fr q) {i k : Nat} (hi : i < q.length) (h1 : 1 ≤ k) (hk : k < N) (hn : (k : Int) ∉ q) (hR : 0 < R q[i] k) : Bfs R N (fr.set k q[i]) (q ++ [(k : Int)]) where
  len := by simp [h.len]
  z := by rw [List.getElem?_append_left h.pos]; exact h.z
  nd := by
    rw [List.nodup_append]
    exact ⟨h.nd, by simp, fun a ha b hb => by simp at hb; subst hb; exact fun e => hn (e ▸ ha)⟩
  rg v hv := by
    rcases List.mem_append.1 hv with hv | hv
    · exact h.rg v hv
    · simp at hv; subst hv; omega
  out v h0 h2 h3 := by
    rw [at0_set (by rw [h.len]; exact hk) _ _ h0]
    have e : v ≠ (k : Int) := by
      rcases h3 with h3 | h3
      · exact fun e => h3 (by simp [e])
      · omega
    rw [if_neg e]
    exact h.out v h0 h2 (h3.imp (fun h4 h5 => h4 (List.mem_append_left _ h5)) id)
  par j hj h0 := by
    have hkl : k < fr.length := by rw [h.len]; exact hk
    by_cases hlt : j < q.length
    · obtain ⟨i', hi', e1, e2⟩ := h.par j hlt h0
      have hm := h.rg _ (List.getElem_mem hlt)
      refine ⟨i', hi', ?_, ?_⟩
      · rw [List.getElem_append_left hlt, List.getElem_append_left (by omega), at0_set hkl _ _ hm.1, if_neg (fun e => hn (by rw [← e]; exact List.getElem_mem hlt)), e1]
      · rw [List.getElem_append_left hlt, List.getElem_append_left (by omega)]; exact e2
    · have e : j = q.length := by simp at hj; omega
      subst e
      refine ⟨i, hi, ?_, ?_⟩
      · rw [List.getElem_append_left hi, List.getElem_append_right (Nat.le_refl _)]
        simp only [Nat.sub_self, List.getElem_cons_zero]
        rw [at0_set hkl _ _ (by omega), if_pos rfl]
      · rw [List.getElem_append_left hi, List.getElem_append_right (Nat.le_refl _)]
        simp only [Nat.sub_self, List.getElem_cons_zero]
        exact hR
theorem nodup_sub {q l : List Int} (hn : q.Nodup) (h : ∀ v ∈ q, v ∈ l) : q.length ≤ l.length := by
  induction q generalizing l with
  | nil => simp
  | cons a q ih =>
    rw [List.nodup_cons] at hn
    have h1 := h a (List.mem_cons_self ..)
    have h2 := ih (l := l.erase a) hn.2 fun v hv => (List.mem_erase_of_ne fun e => hn.1 (by rw [← e]; exact hv)).2 (h v (List.mem_cons_of_mem _ hv))
    rw [List.length_erase_of_mem h1] at h2
    have := List.length_pos_of_mem h1
    simp only [List.length_cons]
    omega
theorem nodup_len_le {q : List Int} {N : Nat} (hn : q.Nodup) (h : ∀ v ∈ q, 0 ≤ v ∧ v < N) : q.length ≤ N := by
  have h1 : ∀ v ∈ q, v ∈ Go.Proofs.Ytmoolcpogilgkaa.rg N := fun v hv => mem_rg.2 (h v hv)
  have h2 := nodup_sub hn h1
  simpa [Go.Proofs.Ytmoolcpogilgkaa.rg] using h2

/-- a way from 0 to z, backwards -/
structure Way (R : Int → Int → Int) (N : Nat) (fr : List Int) (z : Int) (p : List Int) : Prop where
  pos : 0 < p.length
  fst : p[0]'pos = z
  lst : p[p.length - 1]'(by omega) = 0
  rg : ∀ v ∈ p, 0 ≤ v ∧ v < N
  nd : p.Nodup
  nx : ∀ (i : Nat) (h : i + 1 < p.length), p[i]'(by omega) ≠ 0 ∧ at0 fr (p[i]'(by omega)) = p[i + 1] ∧ 0 < R p[i + 1] (p[i]'(by omega))
theorem Bfs.way {R : Int → Int → Int} {N : Nat} {fr q : List Int} (h : Bfs R N fr q) (j : Nat) (hj : j < q.length) : ∃ p, Way R N fr q[j] p ∧ ∀ v ∈ p, ∃ i, ∃ (hi : i < q.length), i ≤ j ∧ q[i] = v := by
  induction j using Nat.strongRecOn with
  | _ j ih =>
    rcases Nat.eq_zero_or_pos j with rfl | h0
    · refine ⟨[0], ⟨by simp, h.hd.symm, rfl, fun v hv => ?_, by simp, fun i hi => by simp at hi⟩, fun v hv => ?_⟩
      · simp at hv; subst hv; have := h.rg _ (List.getElem_mem h.pos); rw [h.hd] at this; exact this
      · simp at hv; subst hv; exact ⟨0, hj, Nat.le_refl _, h.hd⟩
    · obtain ⟨i, hi, e1, e2⟩ := h.par j hj h0
      obtain ⟨p, hp, hq⟩ := ih i hi (by omega)
      have hne : q[j] ≠ 0 := fun e => by
        have : j = 0 := (List.getElem_inj h.nd).1 (e.trans h.hd.symm)
        omega
      refine ⟨q[j] :: p, ⟨by simp, rfl, ?_, fun v hv => ?_, ?_, fun a ha => ?_⟩, fun v hv => ?_⟩
      · have := hp.lst
        have hl := hp.pos
        simp only [List.length_cons, Nat.add_sub_cancel]
        rw [List.getElem_cons, dif_neg (by omega)]; exact this
      · rcases List.mem_cons.1 hv with rfl | hv
        · exact h.rg _ (List.getElem_mem hj)
        · exact hp.rg v hv
      · rw [List.nodup_cons]
        refine ⟨fun hm => ?_, hp.nd⟩
        obtain ⟨b, hb, hb2, hb3⟩ := hq _ hm
        have : b = j := (List.getElem_inj h.nd).1 hb3
        omega
      · cases a with
        | zero =>
          simp only [List.getElem_cons_zero, Nat.zero_add, List.getElem_cons_succ]
          rw [hp.fst]
          exact ⟨hne, e1, e2⟩
        | succ a =>
          simp only [List.getElem_cons_succ]
          exact hp.nx a (by simpa using ha)
      · rcases List.mem_cons.1 hv with rfl | hv
        · exact ⟨j, hj, Nat.le_refl _, rfl⟩
        · obtain ⟨b, hb, hb2, hb3⟩ := hq v hv
          exact ⟨b, hb, by omega, hb3⟩

/-- so much has been let flow on the first i steps of the way -/
def flowR (R : Int → Int → Int) (p : List Int) (n : Int) : Nat → Int → Int → Int
  | 0 => R
  | i + 1 => pushR (flowR R p n i) (at0 p (i + 1 : Nat)) (at0 p i) n
theorem flow_same {R : Int → Int → Int} {N : Nat} {fr p : List Int} {z n : Int} (h : Way R N fr z p) (i : Nat) {j : Nat} (hij : i ≤ j) (hj : j + 1 < p.length) : flowR R p n i (at0 p (j + 1 : Nat)) (at0 p j) = R (at0 p (j + 1 : Nat)) (at0 p j) := by
  induction i with
  | zero => rfl
  | succ i ih =>
    unfold flowR
    have e1 : at0 p (j + 1 : Nat) = p[j + 1] := at0_get hj
    have e2 : at0 p j = p[j] := at0_get (by omega)
    have e3 : at0 p (i + 1 : Nat) = p[i + 1]'(by omega) := at0_get (by omega)
    have e4 : at0 p i = p[i]'(by omega) := at0_get (by omega)
    have n1 : ¬ (at0 p (j + 1 : Nat) = at0 p (i + 1 : Nat) ∧ at0 p j = at0 p i) := fun hh => by
      rw [e2, e4] at hh
      have := (List.getElem_inj h.nd).1 hh.2
      omega
    have n2 : ¬ (at0 p (j + 1 : Nat) = at0 p i ∧ at0 p j = at0 p (i + 1 : Nat)) := fun hh => by
      rw [e1, e4] at hh
      have := (List.getElem_inj h.nd).1 hh.1
      omega
    unfold pushR updR
    rw [if_neg n1, if_neg n2, ih (by omega)]
    omega
theorem flow_res {R cap : Int → Int → Int} {N : Nat} {fr p vs : List Int} {z n : Int} {D : Int → Int} (h : Way R N fr z p) (hv : ∀ v : Int, 0 ≤ v → v < N → v ∈ vs) (hn : vs.Nodup) (h0 : 0 ≤ n)
    (hle : ∀ j, j + 1 < p.length → n ≤ R (at0 p (j + 1 : Nat)) (at0 p j)) (hD : ResD vs cap R D) (i : Nat) (hi : i < p.length) : ResD vs cap (flowR R p n i) (pushD D (at0 p i) z n) := by
  have hz : at0 p 0 = z := by rw [← h.fst]; exact at0_get (k := 0) h.pos
  induction i with
  | zero =>
    have e : pushD D (at0 p (0 : Nat)) z n = D := by
      funext x
      show D x + (if x = at0 p 0 then n else 0) - (if x = z then n else 0) = D x
      rw [hz]; split <;> omega
    rw [e]; exact hD
  | succ i ih =>
    have k1 := ih (by omega)
    have m1 := h.rg _ (List.getElem_mem hi)
    have m2 := h.rg _ (List.getElem_mem (show i < p.length by omega))
    have e1 : at0 p (i + 1 : Nat) = p[i + 1] := at0_get hi
    have e2 : at0 p i = p[i] := at0_get (by omega)
    have k2 := k1.push hn (u := at0 p (i + 1 : Nat)) (v := at0 p i) (hv _ (by rw [e1]; exact m1.1) (by rw [e1]; exact m1.2)) (hv _ (by rw [e2]; exact m2.1) (by rw [e2]; exact m2.2)) (n := n) h0 (by
      rw [flow_same h i (Nat.le_refl _) hi]; exact hle i hi)
    have e : pushD (pushD D (at0 p i) z n) (at0 p (i + 1 : Nat)) (at0 p i) n = pushD D (at0 p (i + 1 : Nat)) z n := by
      funext x
      show D x + (if x = at0 p i then n else 0) - (if x = z then n else 0) + (if x = at0 p (i + 1 : Nat) then n else 0) - (if x = at0 p i then n else 0) = D x + (if x = at0 p (i + 1 : Nat) then n else 0) - (if x = z then n else 0)
      omega
    rw [e] at k2
    exact k2

/-- no way: whatever has been come to is a cut -/
theorem Bfs.cut {R cap : Int → Int → Int} {N : Nat} {fr q : List Int} (h : Bfs R N fr q) (hz : ((N - 1 : Nat) : Int) ∉ q) (hcl : ∀ u ∈ q, ∀ v : Int, 1 ≤ v → v < N → 0 < R u v → v ∈ q) (hnn : ∀ u v, 0 ≤ R u v) :
    ∃ B : Int → Bool, B 0 = false ∧ B ((N - 1 : Nat) : Int) = true ∧ ∀ u ∈ Go.Proofs.Ytmoolcpogilgkaa.rg N, ∀ v ∈ Go.Proofs.Ytmoolcpogilgkaa.rg N, B u = false → B v = true → R u v = 0 := by
  have h0 : (0 : Int) ∈ q := by have := List.getElem_mem h.pos; rw [h.hd] at this; exact this
  refine ⟨fun v => !decide (v ∈ q), by simp [h0], by simp [hz], fun u _ v hv h1 h2 => ?_⟩
  have h3 : u ∈ q := by simpa using h1
  have h4 : v ∉ q := by simpa using h2
  have h5 := hnn u v
  obtain ⟨h6, h7⟩ := mem_rg.1 hv
  by_cases e : 0 < R u v
  · have h8 : 1 ≤ v := by
      by_cases e0 : v = 0
      · subst e0; exact absurd h0 h4
      · omega
    exact absurd (hcl u h3 v h8 h7 e) h4
  · omega
end Go.Proofs.Ytmoolcpogilgkaa

namespace Go.Proofs.Ytmoolcpogilgkaa

abbrev srcP : Pl := (-1, -1)
/-- all places -/
def vsP (n T : Nat) : List Pl := srcP :: (List.range (n * (T + 1))).map fun i => (((i / (T + 1) : Nat) : Int), ((i % (T + 1) : Nat) : Int))
theorem vsP_mem {n T : Nat} {b : Int} {t : Nat} (h0 : 0 ≤ b) (h1 : b < n) (ht : t ≤ T) : ndP b t ∈ vsP n T := by
  obtain ⟨b, rfl⟩ := Int.eq_ofNat_of_zero_le h0
  have hb : b < n := by omega
  refine List.mem_cons_of_mem _ (List.mem_map.2 ⟨b * (T + 1) + t, List.mem_range.2 ?_, ?_⟩)
  · have : (b + 1) * (T + 1) ≤ n * (T + 1) := Nat.mul_le_mul_right _ hb
    rw [Nat.succ_mul] at this
    omega
  · have e1 : (b * (T + 1) + t) / (T + 1) = b := by
      rw [Nat.add_comm, Nat.add_mul_div_right _ _ (by omega), Nat.div_eq_of_lt (by omega)]; omega
    have e2 : (b * (T + 1) + t) % (T + 1) = t := by
      rw [Nat.add_comm, Nat.add_mul_mod_self_right, Nat.mod_eq_of_lt (by omega)]
    rw [e1, e2]
theorem vsP_src (n T : Nat) : srcP ∈ vsP n T := List.mem_cons_self ..
theorem vsP_nodup (n T : Nat) : (vsP n T).Nodup := by
  unfold vsP
  rw [List.nodup_cons]
  refine ⟨fun h => ?_, ?_⟩
  · obtain ⟨i, _, hi⟩ := List.mem_map.1 h
    have := congrArg Prod.fst hi
    generalize i / (T + 1) = q at this
    exact absurd this (by show ¬ ((q : Int) = -1); omega)
  · rw [List.nodup_iff_pairwise_ne, List.pairwise_map]
    refine List.pairwise_lt_range.imp fun {i j} hij h => ?_
    have h1 := congrArg Prod.fst h
    have h2 := congrArg Prod.snd h
    simp only at h1 h2
    have e1 := Nat.div_add_mod i (T + 1)
    have e2 := Nat.div_add_mod j (T + 1)
    have h1' : i / (T + 1) = j / (T + 1) := by omega
    rw [h1'] at e1
    omega
theorem vsP_ok {n T : Nat} (hn : n ≤ 8) (hT : T ≤ 12) (v : Pl) (h : v ∈ vsP n T) : okV v := by
  have key : ∀ x : Int, -1 ≤ x → x ≤ 100000 → (Lit.int .i64 x).wf = true := fun x h0 h1 => WalkArith.wf_i64 (by omega)
  rcases List.mem_cons.1 h with rfl | h
  · exact ⟨key _ (by decide) (by decide), key _ (by decide) (by decide)⟩
  · obtain ⟨i, hi, rfl⟩ := List.mem_map.1 h
    have hi := List.mem_range.1 hi
    have h1 : n * (T + 1) ≤ 8 * 13 := Nat.mul_le_mul hn (by omega)
    have h2 := Nat.div_le_self i (T + 1)
    have h3 := Nat.mod_le i (T + 1)
    generalize i / (T + 1) = q at h2
    generalize i % (T + 1) = r at h3
    exact ⟨key _ (by show (-1 : Int) ≤ (q : Int); omega) (by show (q : Int) ≤ 100000; omega), key _ (by show (-1 : Int) ≤ (r : Int); omega) (by show (r : Int) ≤ 100000; omega)⟩

/-- a way of goods that may be -/
structure EdOk (n T : Nat) (e : Edge) : Prop where
  u : e.1 ∈ vsP n T
  v : e.2.1 ∈ vsP n T
  g0 : 0 ≤ e.2.2
  g1 : e.2.2 ≤ 8000000
theorem NetIn.take {bs : List Int} {ms : List Mv} (h : NetIn bs ms) (k : Nat) : NetIn bs (ms.take k) := ⟨h.n0, h.n1, h.gr, by rw [List.length_take]; have := h.m1; omega, h.ms.take k⟩
theorem eLay_ok {bs : List Int} {ms : List Mv} (h : NetIn bs ms) : ∀ e ∈ eLay ndP bs.length (bsF bs) 0 ms, EdOk bs.length ms.length e := by
  have key : ∀ k, k ≤ ms.length → ∀ e ∈ eLay ndP bs.length (bsF bs) 0 (ms.take k), EdOk bs.length ms.length e := by
    intro k
    induction k with
    | zero => intro _ e he; simp [eLay] at he
    | succ k ih =>
      intro hk e he
      have hkm : k < ms.length := by omega
      rw [List.take_succ_eq_append_getElem hkm, eLay_snoc, List.length_take, Nat.min_eq_left (by omega), Nat.zero_add] at he
      have hm := h.at_ hkm
      rcases List.mem_append.1 he with he | he
      · exact ih (by omega) e he
      · rcases List.mem_cons.1 he with rfl | he
        · have := h.has_bd k ms[k].fr
          have g1 := hm.g1
          exact ⟨vsP_mem hm.f0 hm.f1 (by omega), vsP_mem hm.t0 hm.t1 (by omega), by have := hm.g0; show 0 ≤ ms[k].g; omega, by show ms[k].g ≤ 8000000; omega⟩
        · obtain ⟨b, hb, rfl⟩ := List.mem_map.1 he
          obtain ⟨b0, b1⟩ := mem_rg.1 hb
          have := h.has_bd k b
          have g1 := hm.g1
          have g0 := hm.g0
          refine ⟨vsP_mem b0 b1 (by omega), vsP_mem b0 b1 (by omega), ?_, ?_⟩
          · show 0 ≤ stay _ _ b
            unfold stay
            split
            · rename_i e; subst e; omega
            · omega
          · show stay _ _ b ≤ 8000000
            unfold stay
            split <;> omega
  have := key ms.length (Nat.le_refl _)
  rwa [List.take_length] at this
theorem eLay_len (n : Nat) (a : Int → Int) (t : Nat) (l : List Mv) : (eLay ndP n a t l).length = l.length * (n + 1) := by
  induction l generalizing a t with
  | nil => simp [eLay]
  | cons m l ih =>
    simp only [eLay, List.length_cons, List.length_append, List.length_map, rg_length, ih, Nat.succ_mul]
    omega
/-- all ways, those from where the origins' goods come from too -/
def edP (bs : List Int) (ms : List Mv) (l : List Int) : List Edge := eLay ndP bs.length (bsF bs) 0 ms ++ eSrc srcP ndP (bsF bs) l
theorem eSrc_ok {bs : List Int} {ms : List Mv} (h : NetIn bs ms) {l : List Int} (hl : ∀ o ∈ l, 0 ≤ o ∧ o < bs.length) : ∀ e ∈ eSrc srcP ndP (bsF bs) l, EdOk bs.length ms.length e := by
  intro e he
  obtain ⟨o, ho, rfl⟩ := List.mem_map.1 he
  obtain ⟨h0, h1⟩ := hl o ho
  have := bsF_in h.gr o
  exact ⟨vsP_src _ _, vsP_mem (t := 0) h0 h1 (Nat.zero_le _), by show 0 ≤ bsF bs o; omega, by show bsF bs o ≤ 8000000; omega⟩
theorem edP_ok {bs : List Int} {ms : List Mv} (h : NetIn bs ms) {l : List Int} (hl : ∀ o ∈ l, 0 ≤ o ∧ o < bs.length) : ∀ e ∈ edP bs ms l, EdOk bs.length ms.length e := by
  intro e he
  rcases List.mem_append.1 he with he | he
  · exact eLay_ok h e he
  · exact eSrc_ok h hl e he
theorem capE_le {E : List Edge} (h : ∀ e ∈ E, 0 ≤ e.2.2 ∧ e.2.2 ≤ 8000000) (u v : Pl) : 0 ≤ capE E u v ∧ capE E u v ≤ E.length * 8000000 := by
  refine ⟨capE_nonneg (fun e he => (h e he).1) u v, sm_const_le fun e he => ?_⟩
  have := h e he
  split <;> omega
theorem capE_snoc (E : List Edge) (e : Edge) : updR (capE E) e.1 e.2.1 e.2.2 = capE (E ++ [e]) := by
  funext u v
  unfold updR capE
  rw [sm_append]
  simp only [sm]
  have : (u = e.1 ∧ v = e.2.1) ↔ (e.1 = u ∧ e.2.1 = v) := ⟨fun ⟨a, b⟩ => ⟨a.symm, b.symm⟩, fun ⟨a, b⟩ => ⟨a.symm, b.symm⟩⟩
  simp only [this]
  omega
theorem capE_nil : capE ([] : List Edge) = fun _ _ => 0 := rfl
theorem edP_len {bs : List Int} {ms : List Mv} (h : NetIn bs ms) {l : List Int} (hn : l.length ≤ 8) : (edP bs ms l).length ≤ 116 := by
  unfold edP
  rw [List.length_append, eLay_len]
  simp only [eSrc, List.length_map]
  have : ms.length * (bs.length + 1) ≤ 12 * 9 := Nat.mul_le_mul h.m1 (by have := h.n1; omega)
  omega
theorem orig_len {n : Nat} {l : List Int} (hn : l.Nodup) (hl : ∀ o ∈ l, 0 ≤ o ∧ o < n) (h8 : n ≤ 8) : l.length ≤ 8 := by
  have h1 : ∀ v ∈ l, v ∈ rg n := fun v hv => mem_rg.2 (hl v hv)
  have h2 : l.length ≤ (rg n).length := nodup_sub hn h1
  rw [rg_length] at h2
  omega

def decP (p : Pl) : Option (Int × Nat) := if 0 ≤ p.2 then some (p.1, p.2.toNat) else none
theorem decP_nd (b : Int) (t : Nat) : decP (ndP b t) = some (b, t) := by
  unfold decP
  rw [if_pos (Int.natCast_nonneg t)]; simp
/-- how things stand between two pushes: tot has come to z -/
structure Come (bs : List Int) (ms : List Mv) (l : List Int) (batch : Int) (R : Pl → Pl → Int) (D : Pl → Int) (tot : Int) : Prop where
  res : ResD (vsP bs.length ms.length) (capE (edP bs ms l)) R D
  d : ∀ u ∈ vsP bs.length ms.length, D u = (if u = srcP then tot else 0) - (if u = ndP batch (ms.length : Nat) then tot else 0)
section
variable {bs : List Int} {ms : List Mv} {l : List Int} {batch : Int} {R R' : Pl → Pl → Int} {D : Pl → Int} {tot : Int}
theorem edP_in (hN : NetIn bs ms) (hl : ∀ o ∈ l, 0 ≤ o ∧ o < bs.length) : ∀ e ∈ edP bs ms l, e.1 ∈ vsP bs.length ms.length ∧ e.2.1 ∈ vsP bs.length ms.length := fun e he => ⟨(edP_ok hN hl e he).u, (edP_ok hN hl e he).v⟩
theorem Come.start (hN : NetIn bs ms) (hl : ∀ o ∈ l, 0 ≤ o ∧ o < bs.length) : Come bs ms l batch (capE (edP bs ms l)) (fun _ => 0) 0 :=
  ⟨ResD.start fun u v => capE_nonneg (fun e he => (edP_ok hN hl e he).g0) u v, fun u _ => by split <;> split <;> rfl⟩
theorem Come.le (h : Come bs ms l batch R D tot) (hN : NetIn bs ms) (hl : ∀ o ∈ l, 0 ≤ o ∧ o < bs.length) (hnd : l.Nodup) (hb : 0 ≤ batch ∧ batch < bs.length) : tot ≤ mostF bs.length (bsF bs) l ms batch := by
  obtain ⟨B, h1, h2, h3⟩ := cutP_ex (src := srcP) (nd := ndP) (dec := decP) hN.ms hnd hl (fun b t _ _ _ => decP_nd b t) rfl hb
  rw [← h3]
  exact h.res.le_cut (vsP_nodup _ _) (edP_in hN hl) h.d (vsP_src _ _) B h1 h2
theorem Come.eq (h : Come bs ms l batch R D tot) (hN : NetIn bs ms) (hl : ∀ o ∈ l, 0 ≤ o ∧ o < bs.length) (hnd : l.Nodup) (hb : 0 ≤ batch ∧ batch < bs.length) {M' : Pl → Bool} {g : Int}
    (hp : Push (vsP bs.length ms.length) (capE (edP bs ms l)) R R' (fun _ => false) M' srcP (ndP batch (ms.length : Nat)) 1 g 0) : tot = mostF bs.length (bsF bs) l ms batch := by
  obtain ⟨B, h1, h2, h3⟩ := hp.cut (vsP_nodup _ _) (edP_in hN hl) h.res h.d (vsP_src _ _)
  have h4 := cutP_ge (src := srcP) (nd := ndP) hN.pos hN.ms hnd hl B h1 h2
  have h5 := h.le hN hl hnd hb
  have h6 : cutE B (eLay ndP bs.length (bsF bs) 0 ms ++ eSrc srcP ndP (bsF bs) l) = tot := h3.symm
  omega
theorem Come.push (h : Come bs ms l batch R D tot) {M' : Pl → Bool} {k g n : Int}
    (hp : Push (vsP bs.length ms.length) (capE (edP bs ms l)) R R' (fun _ => false) M' srcP (ndP batch (ms.length : Nat)) k g n) (h0 : 0 < n) : Come bs ms l batch R' (pushD D srcP (ndP batch (ms.length : Nat)) n) (tot + n) :=
  ⟨hp.yes h0 D h.res, fun u hu => by
    show D u + (if u = srcP then n else 0) - (if u = ndP batch (ms.length : Nat) then n else 0) = _
    rw [h.d u hu]
    split <;> split <;> omega⟩
end
end Go.Proofs.Ytmoolcpogilgkaa
