/-
  trace.most: how much of some origins a batch may have, at most.
-/
import Derived.Test.YtmoolcpogilgkaaMostLaw
import Derived.Test.YtmoolcpogilgkaaTrPush
import Derived.Test.YtmoolcpogilgkaaTrEdges
import Derived.Laws.EntriesVeiled
set_option linter.unusedVariables false
set_option linter.unusedSimpArgs false
namespace Go.Proofs.Ytmoolcpogilgkaa
open Go.RowKit Go.Shelf
attribute [local go_sem] Oper.semAt_some

theorem Left.new (n₀ : Nat) (vs : List Pl) (av : Nat) (w : World) (hn : n₀ ≤ w.heap.size) (o : Obj) (ha : av = w.heap.size + 1) : Left n₀ vs av ((w.alloc (.map #[] 0)).alloc o) w.heap.size (fun _ _ => 0) := by
  refine ⟨fun _ => none, fun _ _ => none, ⟨(KMap.new w).alloc o, hn, by omega, by simp; omega, ?_, ?_, ?_, fun _ _ _ => rfl, fun _ _ => rfl, ?_⟩⟩
  · intro u b h; cases h
  · intro u b h; cases h
  · intro u v b h; cases h
  · intro u v x h; cases h

/-- what most keeps: what is left of the room, the variables -/
structure MEnv (vs : List Pl) (w W : World) (Ab Am : Option Addr) (nb cb nm cm : Nat) (R : Pl → Pl → Int) : Prop where
  left : Left w.heap.size vs (w.heap.size + 1 + 1) W (w.heap.size + 1) R
  l : Blk W (w.heap.size + 1 + 1) 123 #[.map (some (w.heap.size + 1))]
  a : Blk W (w.heap.size + 1 + 1 + 1) 127 #[.func (.func 57) #[] #[.pointer (some ⟨w.heap.size + 1 + 1, 0, none⟩)]]
  n : Blk W w.heap.size 27 #[.slice Ab nb cb, .slice Am nm cm]
  kc : Kc w.heap.size w W
section
variable {vs : List Pl} {w W W' : World} {Ab Am : Option Addr} {nb cb nm cm : Nat} {R R' : Pl → Pl → Int}
theorem MEnv.row (h : MEnv vs w W Ab Am nb cb nm cm R) {row : Option Nat} (hg : W.grownBy W' row) (hr : ∀ r, row = some r → w.heap.size + 6 ≤ r ∧ ∃ o, W.heap[r]? = some o ∧ soft o = false) : MEnv vs w W' Ab Am nb cb nm cm R :=
  ⟨h.left.step hg (fun r e es c h1 => by obtain ⟨_, o, h2, h3⟩ := hr r e; rw [h1] at h2; cases h2; cases h3), h.l.grown hg (fun e => by have := (hr _ e.symm).1; omega), h.a.grown hg (fun e => by have := (hr _ e.symm).1; omega), h.n.grown hg (fun e => by have := (hr _ e.symm).1; omega),
    h.kc.row hg (fun r e => by have := (hr r e).1; omega) (Nat.le_refl _)⟩
theorem MEnv.alloc (h : MEnv vs w W Ab Am nb cb nm cm R) (o : Obj) : MEnv vs w (W.alloc o) Ab Am nb cb nm cm R := h.row (World.grownBy_alloc W o none) fun _ e => by cases e
theorem MEnv.drew (h : MEnv vs w W Ab Am nb cb nm cm R) : MEnv vs w W.drew Ab Am nb cb nm cm R := ⟨h.left.drew, h.l, h.a, h.n, h.kc.drew⟩
theorem MEnv.turn (h : MEnv vs w W Ab Am nb cb nm cm R) (hk : Kc w.heap.size W W') (hl : Left w.heap.size vs (w.heap.size + 1 + 1) W' (w.heap.size + 1) R') : MEnv vs w W' Ab Am nb cb nm cm R' :=
  ⟨hl, h.l.kc hk, h.a.kc hk, h.n.kc hk, h.kc.trans hk⟩
end
/-- .. and where goods come from, and where they are sought -/
structure MSt (vs : List Pl) (w W : World) (Ab Am : Option Addr) (nb cb nm cm : Nat) (H D : Nat) (z : Pl) (R : Pl → Pl → Int) : Prop where
  env : MEnv vs w W Ab Am nb cb nm cm R
  s : Blk W H 125 #[.int .i64 (-1), .int .i64 (-1)]
  z : Blk W (H + 1) 125 #[.int .i64 z.1, .int .i64 z.2]
  d : W.heap[D]? = some (.deferred (some []))
section
variable {vs : List Pl} {w W W' : World} {Ab Am : Option Addr} {nb cb nm cm : Nat} {H D : Nat} {z : Pl} {R R' : Pl → Pl → Int}
theorem MSt.turn (h : MSt vs w W Ab Am nb cb nm cm H D z R) (hk : Kc w.heap.size W W') (hl : Left w.heap.size vs (w.heap.size + 1 + 1) W' (w.heap.size + 1) R') : MSt vs w W' Ab Am nb cb nm cm H D z R' :=
  ⟨h.env.turn hk hl, h.s.kc hk, h.z.kc hk, hk.rest D _ h.d rfl⟩
theorem MSt.drew (h : MSt vs w W Ab Am nb cb nm cm H D z R) : MSt vs w W.drew Ab Am nb cb nm cm H D z R := ⟨h.env.drew, h.s, h.z, h.d⟩
theorem MSt.alloc (h : MSt vs w W Ab Am nb cb nm cm H D z R) (o : Obj) : MSt vs w (W.alloc o) Ab Am nb cb nm cm H D z R :=
  ⟨h.env.alloc o, h.s.alloc o, h.z.alloc o, (Below.heap_alloc W o D (Array.getElem?_eq_some_iff.1 h.d).1).trans h.d⟩
end
theorem eSrc_snoc (bs : Int → Int) (l : List Int) (k : Nat) (hk : k < l.length) : eSrc srcP ndP bs (l.take (k + 1)) = eSrc srcP ndP bs (l.take k) ++ [(srcP, ndP l[k] 0, bs l[k])] := by
  unfold eSrc
  rw [List.take_succ_eq_append_getElem hk, List.map_append]; rfl
/-- another block to stay away from: one that holds cells -/
theorem Left.avC {n₀ av av' B : Nat} {vs : List Pl} {w : World} {R : Pl → Pl → Int} (h : Left n₀ vs av w B R) {t : TypeId} {cs : Array Value} (hb : Blk w av' t cs) : Left n₀ vs av' w B R := by
  obtain ⟨m, c, h1⟩ := h
  exact ⟨m, c, { h1 with avB := h1.outer.notB hb, avlt := hb.lt, n0b := fun u b hu => ⟨(h1.n0b u b hu).1, (h1.n0b u b hu).2.1, (h1.inner u b hu).notB hb⟩ }⟩
/-- the number in the cell that a value points at -/
def ptrNat (wr : World) : Value → Nat
  | .pointer (some a) => match wr.cell? a with
    | some v => (intOf v).toNat
    | none => 0
  | _ => 0
theorem ptrNat_eq {wr : World} {g : Nat} {t : TypeId} {c : Int} (h : Blk wr g t #[.int .i64 c]) : ptrNat wr (.pointer (some ⟨g, 0, none⟩)) = c.toNat := by
  have := h.cell 0
  simp [ptrNat, this, intOf]
/-- no panic comes -/
def npQ (Q : Exit → Act → World → Prop) : Exit → Act → World → Prop
  | .panic _, _, _ => False
  | e, a, w => Q e a w
theorem npQ_le {Q : Exit → Act → World → Prop} : ∀ e a w, npQ Q e a w → Q e a w := fun e a w h => by cases e <;> first | exact h | exact h.elim
theorem capE_pre {E : List Edge} (h : ∀ e ∈ E, 0 ≤ e.2.2 ∧ e.2.2 ≤ 8000000) {pre rest : List Edge} {x : Edge} (hx : E = pre ++ x :: rest) (hlen : E.length ≤ 116) (u v : Pl) : 0 ≤ capE pre u v ∧ capE pre u v ≤ 1000000000 := by
  have h1 := capE_le (E := pre) (fun e he => h e (by rw [hx]; exact List.mem_append_left _ he)) u v
  have h2 : pre.length ≤ E.length := by rw [hx]; simp
  omega

set_option maxRecDepth 100000 in
set_option maxHeartbeats 4000000 in
theorem most_any (b1 b2 b3 : Nat) (Ab Am Ao : Option Addr) (nb cb nm cm no co T : Nat) (bs : List Int) (ms : List Mv) (l : List Int) (batch : Nat) (w : World) (hN : NetIn bs ms) (hM : NetM w b1 b2 Ab Am nb cb nm cm bs ms) (hT : T ≤ ms.length)
    (hO : Sl encI 1 w b3 Ao no l) (hl : ∀ o ∈ l, 0 ≤ o ∧ o < bs.length) (hnd : l.Nodup) (hb : batch < bs.length) :
    Calls Try.prog 38 #[netV Ab Am nb cb nm cm, .slice Ao no co, .int .i64 batch, .int .i64 T] w fun e w' => e = .returned (.int .i64 (mostF bs.length (bsF bs) l (ms.take T) batch)) ∧ Below w.heap.size w w' := by
  have h1n : 0 < nb → b1 < w.heap.size := fun h => hM.b.lt h
  have h2n : 0 < nm → b2 < w.heap.size := fun h => hM.m.lt h
  have hmm := @run_makeMap Try.prog
  have hmf : ∀ (fn : Fn) (first cap : Array Value) (w : World), (Instr.makeFunc fn first cap).run Try.prog w = .ok (.func fn first cap) w := fun _ _ _ _ => rfl
  have HM := Lib.hid hM
  have HN := Lib.hid hN
  have HO := Lib.hid hO
  have HOL := Lib.hid hl
  have HND := Lib.hid hnd
  clear hM hN hO hl hnd
  refine (callsIn_wide (n := 9)).1 ?_
  refine callsIn_of_wp_marks Try.func38 rfl trivial ?_ rfl
  simp only [Try.ntmps38, List.size_toArray, List.length_cons, List.length_nil, Nat.reduceAdd, Nat.reduceSub, Array.replicate_succ, Array.replicate_zero, List.push_toArray, List.append_toArray, List.nil_append, List.cons_append]
  gi_wp2_with (refine ⟨trivial, ?_⟩; gi_at_call 58; refine (callsIn_wide.2 (edges_any _ _ _ _ _ _ _ _)).mono ?_; rintro e w' ⟨rfl, rfl⟩)
  rename_i K aK
  have hE := eLay_ok (HN.out.take T)
  have hTl : (ms.take T).length = T := by rw [List.length_take]; omega
  rw [hTl] at hE
  have HE := Lib.hid hE
  have HTL := Lib.hid hTl
  have hvs := vsP_ok (n := bs.length) (T := T) HN.out.n1 (by have := HN.out.m1; omega)
  have HVS := Lib.hid hvs
  have hEl : (eLay ndP bs.length (bsF bs) 0 (ms.take T)).length ≤ 116 := by
    have := edP_len (HN.out.take T) (l := []) (by simp)
    simpa [edP, eSrc] using this
  have hm0 : MEnv (vsP bs.length T) w ((((((w.alloc (.cells #[.slice Ab nb cb, .slice Am nm cm] 27)).alloc (.map #[] 0)).alloc (.cells #[.map (some (w.heap.size + 1))] 123)).alloc (.cells #[.func (.func 57) #[] #[.pointer (some ⟨w.heap.size + 1 + 1, 0, none⟩)]] 127)).alloc (.cells #[.slice Ab nb cb, .slice Am nm cm] 27)).alloc (.cells #[.int .i64 T] 3)) Ab Am nb cb nm cm (capE []) := by
    have g1 := Left.new w.heap.size (vsP bs.length T) (w.heap.size + 1 + 1) (w.alloc (.cells #[.slice Ab nb cb, .slice Am nm cm] 27)) (by simp) (.cells #[.map (some (w.heap.size + 1))] 123) (by simp)
    have g2 := Blk.new ((w.alloc (.cells #[.slice Ab nb cb, .slice Am nm cm] 27)).alloc (.map #[] 0)) 123 #[.map (some (w.heap.size + 1))]
    have g3 := Blk.new (((w.alloc (.cells #[.slice Ab nb cb, .slice Am nm cm] 27)).alloc (.map #[] 0)).alloc (.cells #[.map (some (w.heap.size + 1))] 123)) 127 #[.func (.func 57) #[] #[.pointer (some ⟨w.heap.size + 1 + 1, 0, none⟩)]]
    have g4 := Blk.new w 27 #[.slice Ab nb cb, .slice Am nm cm]
    simp only [World.size_alloc] at g1 g2 g3
    exact ⟨((g1.alloc _).alloc _).alloc _, ((g2.alloc _).alloc _).alloc _, (g3.alloc _).alloc _, ((((g4.alloc _).alloc _).alloc _).alloc _).alloc _,
      ((((((Kc.refl w.heap.size w).alloc (Nat.le_refl _) _).alloc (by simp) _).alloc (by simp; omega) _).alloc (by simp; omega) _).alloc (by simp; omega) _).alloc (by simp; omega) _⟩
  have hbn := (Blk.new ((((w.alloc (.cells #[.slice Ab nb cb, .slice Am nm cm] 27)).alloc (.map #[] 0)).alloc (.cells #[.map (some (w.heap.size + 1))] 123)).alloc (.cells #[.func (.func 57) #[] #[.pointer (some ⟨w.heap.size + 1 + 1, 0, none⟩)]] 127)) 27 #[.slice Ab nb cb, .slice Am nm cm]).alloc (.cells #[.int .i64 T] 3)
  have hbt := Blk.new (((((w.alloc (.cells #[.slice Ab nb cb, .slice Am nm cm] 27)).alloc (.map #[] 0)).alloc (.cells #[.map (some (w.heap.size + 1))] 123)).alloc (.cells #[.func (.func 57) #[] #[.pointer (some ⟨w.heap.size + 1 + 1, 0, none⟩)]] 127)).alloc (.cells #[.slice Ab nb cb, .slice Am nm cm] 27)) 3 #[.int .i64 T]
  simp only [World.size_alloc] at hbn hbt
  have hsz : ((((((w.alloc (.cells #[.slice Ab nb cb, .slice Am nm cm] 27)).alloc (.map #[] 0)).alloc (.cells #[.map (some (w.heap.size + 1))] 123)).alloc (.cells #[.func (.func 57) #[] #[.pointer (some ⟨w.heap.size + 1 + 1, 0, none⟩)]] 127)).alloc (.cells #[.slice Ab nb cb, .slice Am nm cm] 27)).alloc (.cells #[.int .i64 T] 3)).heap.size = w.heap.size + 6 := by simp
  obtain ⟨W0, hW0⟩ : ∃ W0, ((((((w.alloc (.cells #[.slice Ab nb cb, .slice Am nm cm] 27)).alloc (.map #[] 0)).alloc (.cells #[.map (some (w.heap.size + 1))] 123)).alloc (.cells #[.func (.func 57) #[] #[.pointer (some ⟨w.heap.size + 1 + 1, 0, none⟩)]] 127)).alloc (.cells #[.slice Ab nb cb, .slice Am nm cm] 27)).alloc (.cells #[.int .i64 T] 3)) = W0 := ⟨_, rfl⟩
  rw [hW0] at hm0 hbn hbt hsz ⊢
  have HSZ := Lib.hid hsz
  clear hW0 hmm hmf
  have hM0 : NetM W0 b1 b2 Ab Am nb cb nm cm bs ms := HM.out.old hm0.kc.toBelow
  refine wpIn_range_on rfl (by omega) (gf := 73) (lb := #[.pointer (some ⟨w.heap.size + 1 + 1 + 1 + 1, 0, none⟩), .pointer (some ⟨w.heap.size + 1 + 1 + 1 + 1 + 1, 0, none⟩)]) rfl trivial (enters_of Try.func73 (by kernel_rfl) rfl)
    (edges_hands _ (w.heap.size + 1 + 1 + 1 + 1) (w.heap.size + 1 + 1 + 1 + 1 + 1) b1 b2 w.heap.size Ab Am nb cb nm cm T bs ms W0 HN.out hT (by omega) h1n h2n hbn hbt hM0) Kd.trans
    (fun W L o o' hle hlo hrec => Kx.of_grown' (grownBy_putObj' W L o') (by have := (Array.getElem?_eq_some_iff.1 hlo).1; omega) (fun b e => by cases e; exact ⟨by omega, fun o2 h2 => by rw [hlo] at h2; cases h2; cases o <;> first | rfl | cases hrec⟩)) (Below.refl _ _) (fun _ => rfl)
    (fun pre W => MEnv (vsP bs.length T) w W Ab Am nb cb nm cm (capE pre)) (fun pre X Y row h hg hr => h.row hg fun r e => by obtain ⟨h1, h2⟩ := hr r e; exact ⟨by omega, h2⟩) hm0
    (fun x a' W => ∃ Bx, Blk W Bx 132 #[.int .i64 x.1.1, .int .i64 x.1.2, .int .i64 x.2.1.1, .int .i64 x.2.1.2, .int .i64 x.2.2] ∧ a' = { tmps := #[netV Ab Am nb cb nm cm, .slice Ao no co, .int .i64 batch, .int .i64 T, .pointer (some ⟨w.heap.size, 0, none⟩), undef, undef, undef, .int .i64 0, .pointer (some ⟨w.heap.size + 1 + 1, 0, none⟩), .pointer (some ⟨w.heap.size + 1 + 1 + 1, 0, none⟩), .pointer (some ⟨Bx, 0, none⟩), undef, undef, undef, undef, undef, undef, undef, undef, undef, .map (some (w.heap.size + 1)), .func (.func 57) #[] #[.pointer (some ⟨w.heap.size + 1 + 1, 0, none⟩)], .agg #[.slice Ab nb cb, .slice Am nm cm], .int .i64 T, .func (.func 73) #[] #[.pointer (some ⟨w.heap.size + 1 + 1 + 1 + 1, 0, none⟩), .pointer (some ⟨w.heap.size + 1 + 1 + 1 + 1 + 1, 0, none⟩)], .agg #[.int .i64 x.1.1, .int .i64 x.1.2, .int .i64 x.2.1.1, .int .i64 x.2.1.2, .int .i64 x.2.2], undef, undef, undef, undef, undef, undef, undef, undef, undef, undef, undef, undef, undef, undef, undef, undef, undef, undef, undef, undef, undef, undef, undef, undef, undef, undef, undef, undef, undef, undef, undef, undef, undef, undef, undef, undef, undef, undef, undef, undef, undef, undef, undef, undef, undef], defers := [] })
    (fun x a' W L o o' hs hle hlo hrec => by
      obtain ⟨Bx, h1, h2⟩ := hs
      exact ⟨Bx, h1.grown (grownBy_putObj' W L o') (fun e => by injection e with e; subst e; rw [show W.heap[Bx]? = _ from h1] at hlo; cases hlo; cases hrec), h2⟩) ?assign ?body ?done
  case assign =>
    intro L pre x W K2 hI hK2
    gi_wp2
    exact hK2 _ _ (Kc.keepsRec ((Kc.refl 0 W).alloc (Nat.zero_le _) _)) ((Kx.refl w.heap.size W).alloc (by have := hI.kc.size; omega) _) (hI.alloc _) ⟨W.heap.size, Blk.new W _ _, rfl⟩
  case body =>
    rintro L pre x rest a' W hxs hI ⟨Bx, bX, rfl⟩
    have HXS := Lib.hid hxs
    have HI := Lib.hid hI
    have x0 := bX.cell 0
    have x1 := bX.cell 1
    have x2 := bX.cell 2
    have x3 := bX.cell 3
    have x4 := bX.cell 4
    have a0 := hI.a.cell 0
    have hxm : x ∈ eLay ndP bs.length (bsF bs) 0 (ms.take T) := by rw [hxs]; simp
    have hx := HE.out x hxm
    have hcap := capE_pre (fun e he => ⟨(HE.out e he).g0, (HE.out e he).g1⟩) hxs hEl x.1 x.2.1
    have hx0 := hx.g0
    have hx1 := hx.g1
    obtain ⟨hc0, hc1⟩ := hcap
    have HXO := Lib.hid hx
    clear hI hxs hxm hx bX
    gi_wp2_with (refine ⟨trivial, ?_⟩; refine (CallsIn.inRound L (callsIn_wide.2 (add_any w.heap.size (vsP bs.length T) (w.heap.size + 1 + 1) (w.heap.size + 1) (w.heap.size + 1 + 1) (capE pre) x.1 x.2.1 x.2.2 W HI.out.left HI.out.l HI.out.kc.size (hvs _ HXO.out.u) (hvs _ HXO.out.v) HXO.out.v (by omega) (by omega) (by omega) (by omega)))).mono ?_; rintro e w' ⟨rfl, hL, hk⟩)
    gi_wp2
    refine ⟨hk.keepsRec, hk.toKd, ?_⟩
    have := HI.out.turn hk hL
    rwa [capE_snoc] at this
  case done =>
    intro D W hD hI hK
    show K _ _
    refine aK _ _ (wpIn_wide.2 (Code.wp_mono npQ_le ?_))
    clear aK
    simp only []
    have HI := Lib.hid hI
    have HK := Lib.hid hK
    clear hI hK hbn hbt hm0 hM0 hE hTl
    go_upto_region 7 with fail
    have hS0 : MSt (vsP bs.length T) w ((W.alloc (.cells #[.int .i64 (-1), .int .i64 (-1)] 125)).alloc (.cells #[.int .i64 (batch : Int), .int .i64 T] 125)) Ab Am nb cb nm cm W.heap.size D ((batch : Int), (T : Int)) (capE (eLay ndP bs.length (bsF bs) 0 (ms.take T) ++ eSrc srcP ndP (bsF bs) (l.take 0))) := by
      have g1 := Blk.new (W.alloc (.cells #[.int .i64 (-1), .int .i64 (-1)] 125)) 125 #[.int .i64 (batch : Int), .int .i64 T]
      simp only [World.size_alloc] at g1
      have hd := (Below.heap_alloc (W.alloc (.cells #[.int .i64 (-1), .int .i64 (-1)] 125)) (.cells #[.int .i64 (batch : Int), .int .i64 T] 125) D (by have := (Array.getElem?_eq_some_iff.1 HK.out).1; simp; omega)).trans ((Below.heap_alloc W (.cells #[.int .i64 (-1), .int .i64 (-1)] 125) D (Array.getElem?_eq_some_iff.1 HK.out).1).trans HK.out)
      have e : eLay ndP bs.length (bsF bs) 0 (ms.take T) ++ eSrc srcP ndP (bsF bs) (l.take 0) = eLay ndP bs.length (bsF bs) 0 (ms.take T) := by simp [eSrc]
      rw [e]
      exact ⟨(HI.out.alloc _).alloc _, (Blk.new W _ _).alloc _, g1, hd⟩
    obtain ⟨W1, hW1⟩ : ∃ W1, ((W.alloc (.cells #[.int .i64 (-1), .int .i64 (-1)] 125)).alloc (.cells #[.int .i64 (batch : Int), .int .i64 T] 125)) = W1 := ⟨_, rfl⟩
    rw [hW1] at hS0 ⊢
    have HS0 := Lib.hid hS0
    have hno := HO.out.len
    have HNO := Lib.hid hno
    have hno8 : no ≤ 8 := by have := orig_len HND.out HOL.out HN.out.n1; omega
    have hnb := HM.out.b.len
    have HNB := Lib.hid hnb
    have hnb8 : nb ≤ 8 := by have := HN.out.n1; omega
    clear hS0 hW1 hno hnb
    go_wp2_with fail
    go_loopw [41] (fun i wr => ∃ k : Nat, k ≤ no ∧ i = .int .i64 k ∧ MSt (vsP bs.length T) w wr Ab Am nb cb nm cm W.heap.size D ((batch : Int), (T : Int)) (capE (eLay ndP bs.length (bsF bs) 0 (ms.take T) ++ eSrc srcP ndP (bsF bs) (l.take k)))) (fun i _ => no - (intOf i).toNat)
    case atStart => exact ⟨0, Nat.zero_le _, rfl, HS0.out⟩
    case round =>
      obtain ⟨k, hk, rfl, hS⟩ := hrel
      have HS := Lib.hid hS
      clear hS
      by_cases hlt : k < no
      · have hkl : k < l.length := by have := HNO.out; omega
        obtain ⟨off, rfl, hb3, o0⟩ := (HO.out.below HS.out.env.kc.toBelow (fun h => HO.out.lt h)).atI hkl
        have hoR := HOL.out l[k] (List.getElem_mem hkl)
        obtain ⟨on, hon⟩ := Int.eq_ofNat_of_zero_le hoR.1
        rw [hon] at o0
        have honb : on < bs.length := by have := hoR.2; omega
        have honn : on < nb := by have := HNB.out; omega
        obtain ⟨off1, rfl, hb1, o1⟩ := (HM.out.b.below HS.out.env.kc.toBelow (fun h => h1n h)).atI honb
        have HEK := Lib.hid (eSrc_snoc (bsF bs) l k hkl)
        have HBS := Lib.hid (bsF_get (bs := bs) honb)
        have hbd := bsF_in HN.out.gr on
        obtain ⟨x, hx⟩ : ∃ x, x = bsF bs on := ⟨_, rfl⟩
        rw [← bsF_get honb, ← hx] at o1
        rw [← hx] at hbd
        obtain ⟨hx0, hx1⟩ := hbd
        have HX := Lib.hid hx
        have HON := Lib.hid hon
        have hcap := capE_le (E := eLay ndP bs.length (bsF bs) 0 (ms.take T) ++ eSrc srcP ndP (bsF bs) (l.take k)) (fun e he => by
          have h1 := edP_ok (HN.out.take T) (l := l.take k) (fun o ho => HOL.out o (List.mem_of_mem_take ho)) e he
          exact ⟨h1.g0, h1.g1⟩) srcP (ndP on 0)
        have hcl := edP_len (HN.out.take T) (l := l.take k) (by rw [List.length_take]; omega)
        unfold edP at hcl
        obtain ⟨hc0, hc1⟩ := hcap
        have hon0 : (0 : Int) ≤ (on : Int) := by omega
        have hon1 : (on : Int) < (nb : Int) := by omega
        clear hx hon hoR
        go_upto_region 10 with fail
        refine wp_region_PL [0, 1, 5, 8] (fun w' => w'.cell? ⟨w.heap.size + 1 + 1 + 1, 0, none⟩ = some (.func (.func 57) #[] #[.pointer (some ⟨w.heap.size + 1 + 1, 0, none⟩)]) ∧ w'.cell? ⟨W.heap.size, 0, none⟩ = some (.int .i64 (-1)) ∧ w'.cell? ⟨W.heap.size, 1, none⟩ = some (.int .i64 (-1)) ∧ w'.cell? ⟨w.heap.size, 0, none⟩ = some (.slice (some ⟨b1, off1, none⟩) nb cb) ∧ w'.cell? ⟨b1, off1 + on, none⟩ = some (.int .i64 x)) rfl (by kernel_rfl) (⟨HS.out.env.a.cell 0, HS.out.s.cell 0, HS.out.s.cell 1, HS.out.env.n.cell 0, o1⟩) (fun hF0 => ?_)
        (refine wpAnyP_loadL (i := 0) (v := ?_) rfl (by kernel_rfl) (by kernel_rfl) (by kernel_rfl) (by rfl) (fun _ _ _ h => h) hF0 (by rfl) ?_ ?_; rotate_left 1; focus (intro w hFw; (try dsimp only at hFw); go_split_ands; go_simp; try with_reducible rfl))
        try simp only [Act.put, List.setIfInBounds_toArray, List.set_cons_zero, List.set_cons_succ]
        (refine wpAnyP_loadL (i := 1) (v := ?_) rfl (by kernel_rfl) (by kernel_rfl) (by kernel_rfl) (by rfl) (fun _ _ _ h => h) hF0 (by rfl) ?_ ?_; rotate_left 1; focus (intro w hFw; (try dsimp only at hFw); go_split_ands; go_simp; try with_reducible rfl))
        try simp only [Act.put, List.setIfInBounds_toArray, List.set_cons_zero, List.set_cons_succ]
        (refine wpAnyP_takeL (i := 2) (v := ?_) rfl (by kernel_rfl) (by kernel_rfl) (by kernel_rfl) (fun _ _ _ h => h) (by rfl) ?_ ?_; rotate_left 1; focus (intro w; go_simp; try with_reducible rfl))
        try simp only [Act.put, List.setIfInBounds_toArray, List.set_cons_zero, List.set_cons_succ]
        (refine wpAnyP_takeL (i := 3) (v := ?_) rfl (by kernel_rfl) (by kernel_rfl) (by kernel_rfl) (fun _ _ _ h => h) (by rfl) ?_ ?_; rotate_left 1; focus (intro w; go_simp; try with_reducible rfl))
        try simp only [Act.put, List.setIfInBounds_toArray, List.set_cons_zero, List.set_cons_succ]
        (refine wpAnyP_takeL (i := 4) (v := ?_) rfl (by kernel_rfl) (by kernel_rfl) (by kernel_rfl) (fun _ _ _ h => h) (by rfl) ?_ ?_; rotate_left 1; focus (intro w; go_simp; try with_reducible rfl))
        try simp only [Act.put, List.setIfInBounds_toArray, List.set_cons_zero, List.set_cons_succ]
        (refine wpAnyP_loadL (i := 5) (v := ?_) rfl (by kernel_rfl) (by kernel_rfl) (by kernel_rfl) (by rfl) (fun _ _ _ h => h) hF0 (by rfl) ?_ ?_; rotate_left 1; focus (intro w hFw; (try dsimp only at hFw); go_split_ands; go_simp; try with_reducible rfl))
        try simp only [Act.put, List.setIfInBounds_toArray, List.set_cons_zero, List.set_cons_succ]
        (refine wpAnyP_takeL (i := 6) (v := ?_) rfl (by kernel_rfl) (by kernel_rfl) (by kernel_rfl) (fun _ _ _ h => h) (by rfl) ?_ ?_; rotate_left 1; focus (intro w; go_simp; try with_reducible rfl))
        try simp only [Act.put, List.setIfInBounds_toArray, List.set_cons_zero, List.set_cons_succ]
        (refine wpAnyP_takeL (i := 7) (v := ?_) rfl (by kernel_rfl) (by kernel_rfl) (by kernel_rfl) (fun _ _ _ h => h) (by rfl) ?_ ?_; rotate_left 1; focus (intro w; go_simp; try with_reducible rfl))
        try simp only [Act.put, List.setIfInBounds_toArray, List.set_cons_zero, List.set_cons_succ]
        (refine wpAnyP_loadL (i := 8) (v := ?_) rfl (by kernel_rfl) (by kernel_rfl) (by kernel_rfl) (by rfl) (fun _ _ _ h => h) hF0 (by rfl) ?_ ?_; rotate_left 1; focus (intro w hFw; (try dsimp only at hFw); go_split_ands; go_simp; try with_reducible rfl))
        try simp only [Act.put, List.setIfInBounds_toArray, List.set_cons_zero, List.set_cons_succ]
        refine wpAnyP_step (i := 9) rfl (by kernel_rfl) (by rfl) (fun K hK => ?_)
        go_simp
        (refine (add_any w.heap.size (vsP bs.length T) (w.heap.size + 1 + 1) (w.heap.size + 1) (w.heap.size + 1 + 1) _ srcP (ndP on 0) x _ HS.out.env.left.drew HS.out.env.l HS.out.env.kc.size (hvs _ (vsP_src _ _)) (hvs _ (vsP_mem (t := 0) hon0 (by omega) (Nat.zero_le _))) (vsP_mem (t := 0) hon0 (by omega) (Nat.zero_le _)) (by omega) (by omega) (by omega) (by omega)).mono ?_; rintro e w6 ⟨rfl, hL, hk6⟩)
        (refine hK _ _ (⟨(HS.out.env.a.drew.kc hk6).cell 0, (HS.out.s.drew.kc hk6).cell 0, (HS.out.s.drew.kc hk6).cell 1, (HS.out.env.n.drew.kc hk6).cell 0, (World.cell?_of_block (w := wr.drew) (a := ⟨b1, off1 + on, none⟩) (hk6.below b1 (h1n (by omega)))).trans o1⟩) (fun hF1 => ?_); clear hK K hF0)
        try simp only [Act.put, List.setIfInBounds_toArray, List.set_cons_zero, List.set_cons_succ]
        refine wpAnyP_done (by kernel_rfl) ?_ _
        have HSN := Lib.hid (show MSt (vsP bs.length T) w w6 (some ⟨b1, off1, none⟩) Am nb cb nm cm W.heap.size D ((batch : Int), (T : Int)) (capE (eLay ndP bs.length (bsF bs) 0 (ms.take T) ++ eSrc srcP ndP (bsF bs) (l.take (k + 1)))) by
          have h1 := HS.out.drew.turn hk6 hL
          have e := capE_snoc (eLay ndP bs.length (bsF bs) 0 (ms.take T) ++ eSrc srcP ndP (bsF bs) (l.take k)) (srcP, ndP on 0, x)
          rw [e] at h1
          rw [HEK.out, HON.out, ← HX.out, ← List.append_assoc]
          exact h1)
        clear hL hk6 o0 o1
        go_wp2_with fail
        go_roundw
        case rel => exact ⟨k + 1, by omega, by go_num, HSN.out⟩
        case measure => simp [intOf]; omega
      · obtain rfl : k = no := by omega
        have hlk : l.take k = l := List.take_of_length_le (by have := HNO.out; omega)
        have HSE := Lib.hid (show MSt (vsP bs.length T) w wr Ab Am nb cb nm cm W.heap.size D ((batch : Int), (T : Int)) (capE (edP bs (ms.take T) l)) by have := HS.out; rw [hlk] at this; exact this)
        have HNT := Lib.hid (HN.out.take T)
        obtain ⟨MF, hMF⟩ : ∃ MF, MF = mostF bs.length (bsF bs) l (ms.take T) batch := ⟨_, rfl⟩
        have hMF0 : 0 ≤ MF := by rw [hMF]; exact mostF_nonneg HN.out.pos HNT.out.ms l batch
        have hMF1 : MF ≤ 8000000 := by
          have := mostF_le_sum HN.out.pos HNT.out.ms l (batch := batch) (by omega) (by omega)
          have := HN.out.sum
          rw [hMF]; omega

        have HMF := Lib.hid hMF
        have hcap : ∀ u v, capE (edP bs (ms.take T) l) u v ≤ 1000000000 := fun u v => by
          have h1 := (capE_le (E := edP bs (ms.take T) l) (fun e he => ⟨(edP_ok HNT.out HOL.out e he).g0, (edP_ok HNT.out HOL.out e he).g1⟩) u v).2
          have h2 := edP_len HNT.out (l := l) (orig_len HND.out HOL.out HN.out.n1)
          omega
        have HCAP := Lib.hid hcap
        clear hlk HS hMF hcap
        go_wp2_with fail
        obtain ⟨wo, rfl⟩ : ∃ wo : World, wo = wr := ⟨_, rfl⟩
        have HS1 := Lib.hid (HSE.out.alloc (.cells #[.int .i64 8388608] 3))
        have HC1 := Lib.hid (Blk.new wo 3 #[.int .i64 8388608])
        go_loopw [16, 17] (fun tv pv wr => ∃ (tot c : Int) (Bk : Nat) (R : Pl → Pl → Int) (D' : Pl → Int), tv = .int .i64 tot ∧ pv = .pointer (some ⟨Bk, 0, none⟩) ∧ Blk wr Bk 3 #[.int .i64 c] ∧ 0 ≤ c ∧ c ≤ 8388608 ∧ 0 ≤ tot ∧ (c = 0 → tot = MF) ∧ MSt (vsP bs.length T) w wr Ab Am nb cb nm cm W.heap.size D ((batch : Int), (T : Int)) R ∧ Come bs (ms.take T) l batch R D' tot) (fun _ pv wr => ptrNat wr pv)
        case atStart => exact ⟨0, 8388608, _, _, _, rfl, rfl, HC1.out, by omega, by omega, by omega, fun h => by omega, HS1.out, Come.start HNT.out HOL.out⟩
        case round =>
          obtain ⟨tot, c, Bk, R, D', rfl, rfl, hC, hc0, hc1, ht0, hcz, hS, hCo⟩ := hrel
          have k0 := hC.cell 0
          have HC := Lib.hid hC
          have HS := Lib.hid hS
          have HCO := Lib.hid hCo
          have HCZ := Lib.hid hcz
          clear hC hS hCo hcz
          by_cases hcp : 0 < c
          · have hmm := @run_makeMap Try.prog
            have hmf : ∀ (fn : Fn) (first cap : Array Value) (w : World), (Instr.makeFunc fn first cap).run Try.prog w = .ok (.func fn first cap) w := fun _ _ _ _ => rfl
            go_wp2_with fail
            obtain ⟨wq, rfl⟩ : ∃ wq : World, wq = wr := ⟨_, rfl⟩
            clear k0
            go_loopw [16] (fun tv wr => ∃ (tot : Int) (R : Pl → Pl → Int) (D' : Pl → Int), tv = .int .i64 tot ∧ 0 ≤ tot ∧ Blk wr Bk 3 #[.int .i64 c] ∧ MSt (vsP bs.length T) w wr Ab Am nb cb nm cm W.heap.size D ((batch : Int), (T : Int)) R ∧ Come bs (ms.take T) l batch R D' tot) (fun tv _ => (MF - intOf tv).toNat)
            case atStart => exact ⟨tot, R, D', rfl, ht0, HC.out, HS.out, HCO.out⟩
            case round =>
              obtain ⟨tot, R, D', rfl, ht0, hC, hS, hCo⟩ := hrel
              have hS3 := ((hS.alloc (.map #[] 0)).alloc (.cells #[.map (some wr.heap.size)] 133)).alloc (.cells #[.func (.func 59) #[] #[.pointer (some ⟨W.heap.size + 1, 0, none⟩), .pointer (some ⟨wr.heap.size + 1, 0, none⟩), .pointer (some ⟨w.heap.size + 1 + 1, 0, none⟩), .pointer (some ⟨Bk, 0, none⟩), .pointer (some ⟨wr.heap.size + 1 + 1, 0, none⟩), .pointer (some ⟨w.heap.size + 1 + 1 + 1, 0, none⟩)]] 134)
              have hC3 := ((hC.alloc (.map #[] 0)).alloc (.cells #[.map (some wr.heap.size)] 133)).alloc (.cells #[.func (.func 59) #[] #[.pointer (some ⟨W.heap.size + 1, 0, none⟩), .pointer (some ⟨wr.heap.size + 1, 0, none⟩), .pointer (some ⟨w.heap.size + 1 + 1, 0, none⟩), .pointer (some ⟨Bk, 0, none⟩), .pointer (some ⟨wr.heap.size + 1 + 1, 0, none⟩), .pointer (some ⟨w.heap.size + 1 + 1 + 1, 0, none⟩)]] 134)
              have hT3 := (Blk.new (wr.alloc (.map #[] 0)) 133 #[.map (some wr.heap.size)]).alloc (.cells #[.func (.func 59) #[] #[.pointer (some ⟨W.heap.size + 1, 0, none⟩), .pointer (some ⟨wr.heap.size + 1, 0, none⟩), .pointer (some ⟨w.heap.size + 1 + 1, 0, none⟩), .pointer (some ⟨Bk, 0, none⟩), .pointer (some ⟨wr.heap.size + 1 + 1, 0, none⟩), .pointer (some ⟨w.heap.size + 1 + 1 + 1, 0, none⟩)]] 134)
              have hP3 := Blk.new ((wr.alloc (.map #[] 0)).alloc (.cells #[.map (some wr.heap.size)] 133)) 134 #[.func (.func 59) #[] #[.pointer (some ⟨W.heap.size + 1, 0, none⟩), .pointer (some ⟨wr.heap.size + 1, 0, none⟩), .pointer (some ⟨w.heap.size + 1 + 1, 0, none⟩), .pointer (some ⟨Bk, 0, none⟩), .pointer (some ⟨wr.heap.size + 1 + 1, 0, none⟩), .pointer (some ⟨w.heap.size + 1 + 1 + 1, 0, none⟩)]]
              have hM3 := ((KMap.new (enc := plV) (ok := okV) wr).alloc (.cells #[.map (some wr.heap.size)] 133)).alloc (.cells #[.func (.func 59) #[] #[.pointer (some ⟨W.heap.size + 1, 0, none⟩), .pointer (some ⟨wr.heap.size + 1, 0, none⟩), .pointer (some ⟨w.heap.size + 1 + 1, 0, none⟩), .pointer (some ⟨Bk, 0, none⟩), .pointer (some ⟨wr.heap.size + 1 + 1, 0, none⟩), .pointer (some ⟨w.heap.size + 1 + 1 + 1, 0, none⟩)]] 134)
              have hL3 := ((hS.env.left.av (.map #[] 0)).alloc (.cells #[.map (some wr.heap.size)] 133)).alloc (.cells #[.func (.func 59) #[] #[.pointer (some ⟨W.heap.size + 1, 0, none⟩), .pointer (some ⟨wr.heap.size + 1, 0, none⟩), .pointer (some ⟨w.heap.size + 1 + 1, 0, none⟩), .pointer (some ⟨Bk, 0, none⟩), .pointer (some ⟨wr.heap.size + 1 + 1, 0, none⟩), .pointer (some ⟨w.heap.size + 1 + 1 + 1, 0, none⟩)]] 134)
              simp only [World.size_alloc] at hT3 hP3
              have hE3 : PEnv (((wr.alloc (.map #[] 0)).alloc (.cells #[.map (some wr.heap.size)] 133)).alloc (.cells #[.func (.func 59) #[] #[.pointer (some ⟨W.heap.size + 1, 0, none⟩), .pointer (some ⟨wr.heap.size + 1, 0, none⟩), .pointer (some ⟨w.heap.size + 1 + 1, 0, none⟩), .pointer (some ⟨Bk, 0, none⟩), .pointer (some ⟨wr.heap.size + 1 + 1, 0, none⟩), .pointer (some ⟨w.heap.size + 1 + 1 + 1, 0, none⟩)]] 134)) (W.heap.size + 1) (wr.heap.size + 1) (w.heap.size + 1 + 1) Bk (wr.heap.size + 1 + 1) (w.heap.size + 1 + 1 + 1) wr.heap.size (w.heap.size + 1) ((batch : Int), (T : Int)) c := ⟨hS3.z, hT3, hS3.env.l, hC3, hP3, hS3.env.a⟩
              have s0 := hS3.s.cell 0
              have s1 := hS3.s.cell 1
              have hmet : (metF fun _ => false) = fun _ : Pl => none := rfl
              rw [← hmet] at hM3
              have HS3 := Lib.hid hS3
              have HC3 := Lib.hid hC3
              have HM3 := Lib.hid hM3
              have HL3 := Lib.hid hL3
              have HE3 := Lib.hid hE3
              have HCo := Lib.hid hCo
              have hsw : w.heap.size ≤ wr.heap.size := hS.env.kc.size
              have hp0 := hP3.cell 0
              have hvT : vsP bs.length (ms.take T).length = vsP bs.length T := by rw [HTL.out]
              have HVT := Lib.hid hvT
              clear hS3 hC3 hT3 hP3 hM3 hL3 hE3 hC hS hCo hmet hvT
              go_upto_region 20 with (go_at_call 59; refine (push_any w.heap.size (vsP bs.length T) (capE (edP bs (ms.take T) l)) (W.heap.size + 1) (wr.heap.size + 1) (w.heap.size + 1 + 1) Bk (wr.heap.size + 1 + 1) (w.heap.size + 1 + 1 + 1) wr.heap.size (w.heap.size + 1) ((batch : Int), (T : Int)) c HVS.out (vsP_nodup _ _) (by omega) HCAP.out hsw _ (fun _ => false) srcP 1099511627776 R D' _ (Nat.le_refl _) HE3.out HL3.out HM3.out HS3.out.env.kc.size (by have := HCo.out.res; rw [HVT.out] at this; exact this) (vsP_src _ _) rfl rfl (by omega) (by omega)).mono ?_; rintro e w5 ⟨n, R1, M1, rfl, hPu, hL5, hK5, hN5⟩)
              have HPU := Lib.hid hPu
              have hn0 := hPu.n0
              have HL5 := Lib.hid hL5
              have HK5 := Lib.hid hK5
              have HS5 := Lib.hid (show MSt (vsP bs.length T) w w5 Ab Am nb cb nm cm W.heap.size D ((batch : Int), (T : Int)) R1 from HS3.out.turn hK5 (hL5.avC (HS3.out.env.l.kc hK5)))
              have HC5 := Lib.hid (HC3.out.kc hK5)
              clear hPu hL5 hK5 hN5 s0 s1 hp0
              by_cases hnz : n = 0
              · subst hnz
                have hR1 : R1 = R := (HPU.out.no rfl).1
                have HCo5 := Lib.hid (show Come bs (ms.take T) l batch R1 D' tot by rw [hR1]; exact HCo.out)
                have c0 := HC5.out.cell 0
                have HCQ := Lib.hid (show c = 1 → tot = MF from fun h1 => by
                  have h2 := HPU.out
                  rw [h1] at h2
                  have h3 : Push (vsP bs.length (ms.take T).length) (capE (edP bs (ms.take T) l)) R R1 (fun _ => false) M1 srcP (ndP batch ((ms.take T).length : Nat)) 1 1099511627776 0 := by rw [HTL.out]; exact h2
                  rw [HMF.out]
                  exact HCo.out.eq HNT.out HOL.out HND.out (by omega) h3)
                clear hR1 hmm hmf
                go_wp2_with fail
                refine ⟨⟨tot, c / 2, w5.heap.size, R1, D', rfl, rfl, Blk.new _ _ _, by omega, by omega, ht0, fun h => HCQ.out (by omega), HS5.out.alloc _, HCo5.out⟩, ?_⟩
                rw [ptrNat_eq (Blk.new w5 3 #[.int .i64 (c / 2)]), ptrNat_eq HC.out]
                omega
              · have hpos : 0 < n := by omega
                have h3 : Push (vsP bs.length (ms.take T).length) (capE (edP bs (ms.take T) l)) R R1 (fun _ => false) M1 srcP (ndP batch ((ms.take T).length : Nat)) c 1099511627776 n := by rw [HTL.out]; exact HPU.out
                have HCo5 := Lib.hid (HCo.out.push h3 hpos)
                have hle := HCo5.out.le HNT.out HOL.out HND.out (by omega)
                rw [← HMF.out] at hle
                clear h3 hmm hmf
                go_wp2_with fail
                go_roundw
                case rel => exact ⟨tot + n, R1, _, rfl, by omega, HC5.out, HS5.out, HCo5.out⟩
                case measure => simp [intOf]; omega
          · have hcz : c = 0 := by omega
            have HTE := Lib.hid (HCZ.out hcz)
            go_wp2_with fail
            refine ⟨by simp, .inl ⟨_, _, rfl, run_takeDeferred HS.out.d, ?_⟩⟩
            refine ⟨_, results_tmp rfl _ _ _, ?_, ?_⟩
            · exact ret_int (HTE.out.trans HMF.out)
            exact HS.out.env.kc.toBelow.trans (belowK_b (w := w) (Nat.le_refl _) wr D _ _ (by omega) HS.out.d rfl rfl)
end Go.Proofs.Ytmoolcpogilgkaa
