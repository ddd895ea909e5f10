/-
  The chapter's examples hold: what every law of the layer asks at its end.
-/
import Derived.Test.YtkcdknjgjidnnaaDay
import Derived.Test.YtkcdknjgjidnnaaPriceW
import Derived.Test.YtkcdknjgjidnnaaPriceLaw
import Derived.Test.YtkcdknjgjidnnaaDuesW
import Derived.Test.YtkcdknjgjidnnaaSealW
import Derived.Test.YtkcdknjgjidnnaaSame
set_option linter.unusedVariables false
set_option linter.unusedSimpArgs false
namespace Go.Proofs.Ytkcdknjgjidnnaa
open Go.RowKit

theorem day_in : BookIn 2 2 dayL := check_zero.1 (by decide)
theorem day_price : priceErr 2 2 0 dayL = 0 ∧ priceOut 2 2 0 dayL = (1, 600, 700) := by
  have he : priceErr 2 2 0 dayL = 0 := by decide
  refine ⟨he, ?_⟩
  unfold priceOut
  rw [if_pos he, ← refMid_eq (day_in.good 0)]
  decide
theorem day_dues : duesErr 2 2 dayL stepsL = 0 ∧ duesOut 2 2 dayL stepsL = [⟨50, 95⟩, ⟨140, 321⟩] := by decide
theorem eve_seal : check 1 1 eveL = 0 ∧ sealOf 1 1 eveL = 4069 := by decide

set_option maxRecDepth 100000 in
set_option maxHeartbeats 1000000 in
theorem awake_any (w : World) : Calls Try.prog 14 #[] w fun e w' => e = .returned (.bool true) ∧ Below w.heap.size w w' := by
  go_enter Try.func14, Try.ntmps14
  go_wp2_with fail
  refine (day_any w).mono ?_
  rintro e w1 ⟨A1, c1, rfl, ⟨b1, hb1, hs1⟩, hB1⟩
  have HB1 := Lib.hid hB1
  clear hB1
  go_wp2_with fail
  refine (price_any 2 2 0 b1 4 c1 A1 dayL _ hs1 (by omega)).mono ?_
  rintro e w2 ⟨rfl, hB2⟩
  rw [day_price.1, day_price.2]
  have HB2 := Lib.hid (Below.step hB2 HB1.out (Nat.le_refl _))
  have hz2 := hB2.size
  have hz1 := HB1.out.size
  clear hB2 hs1 hb1
  go_wp2_with fail
  refine (day_any _).mono ?_
  rintro e w3 ⟨A3, c3, rfl, ⟨b3, hb3, hs3⟩, hB3⟩
  have K3 := (Blk.new w2 26 #[.int .i64 600, .int .i64 700]).below hB3 (by simp)
  have HB3 := Lib.hid (Below.step hB3 (HB2.out.alloc (by omega) _) (Nat.le_refl _))
  have hz3 := hB3.size
  simp only [World.size_alloc] at hz3
  clear hB3 hb3
  go_wp2_with fail
  refine (steps_any _).mono ?_
  rintro e w4 ⟨A4, c4, rfl, ⟨b4, hb4, hs4⟩, hB4⟩
  have K4 := K3.below hB4 K3.lt
  have HS4 := hs3.old hB4
  have HB4 := Lib.hid (Below.step hB4 HB3.out (Nat.le_refl _))
  have hz4 := hB4.size
  clear hB4 hb4 hs3 K3
  go_wp2_with fail
  refine (duesTop_any 2 2 b3 4 c3 b4 2 c4 A3 A4 dayL stepsL _ HS4 hs4 (by omega) (by omega)).mono ?_
  rw [day_dues.1, day_dues.2]
  rintro e w5 ⟨A5, c5, b5, rfl, hs5, hB5⟩
  have K5 := K4.below hB5 K4.lt
  have HB5 := Lib.hid (Below.step hB5 HB4.out (Nat.le_refl _))
  have hz5 := hB5.size
  clear hB5 HS4 hs4 K4
  go_wp2_with fail
  refine (eve_any _).mono ?_
  rintro e w6 ⟨A6, c6, rfl, ⟨b6, hb6, hs6⟩, hB6⟩
  have K6 := K5.below hB6 K5.lt
  have HS6 := hs5.old hB6
  have HB6 := Lib.hid (Below.step hB6 HB5.out (Nat.le_refl _))
  have hz6 := hB6.size
  clear hB6 hb6 hs5 K5
  go_wp2_with fail
  refine (sealTop_any 1 1 b6 1 c6 A6 eveL _ hs6 (by omega)).mono ?_
  rw [eve_seal.1, if_pos rfl, eve_seal.2]
  rintro e w7 ⟨rfl, hB7⟩
  have K7 := Lib.hid ((K6.below hB7 K6.lt).drew)
  have HS7 := Lib.hid ((HS6.old hB7).drew)
  have HB7 := Lib.hid (Below.step hB7 HB6.out (Nat.le_refl _)).drew
  have hz7 := hB7.size
  clear hB7 HS6 K6 hs6
  go_wp2_with fail
  have HX := Lib.hid hz7
  clear hz7 hz6 hz5 hz4 hz3 hz2 hz1
  refine wp_region_PL [15] (fun w' => w'.cell? ⟨w2.heap.size, 0, none⟩ = some (.int .i64 600) ∧ w'.cell? ⟨w2.heap.size, 1, none⟩ = some (.int .i64 700)) rfl (by kernel_rfl) (⟨K7.out.cell 0, K7.out.cell 1⟩) (fun hF0 => ?_)
  (refine wpAnyP_takeL (i := 0) (v := ?_) rfl (by kernel_rfl) (by kernel_rfl) (by kernel_rfl) (fun _ _ _ h => h) (by rfl) ?_ ?_; rotate_left 1; focus (intro w; go_simp; try with_reducible rfl))
  try simp only [Act.put, List.setIfInBounds_toArray, List.set_cons_zero, List.set_cons_succ]
  (refine wpAnyP_takeL (i := 1) (v := ?_) rfl (by kernel_rfl) (by kernel_rfl) (by kernel_rfl) (fun _ _ _ h => h) (by rfl) ?_ ?_; rotate_left 1; focus (intro w; go_simp; try with_reducible rfl))
  try simp only [Act.put, List.setIfInBounds_toArray, List.set_cons_zero, List.set_cons_succ]
  (refine wpAnyP_takeL (i := 2) (v := ?_) rfl (by kernel_rfl) (by kernel_rfl) (by kernel_rfl) (fun _ _ _ h => h) (by rfl) ?_ ?_; rotate_left 1; focus (intro w; go_simp; try with_reducible rfl))
  try simp only [Act.put, List.setIfInBounds_toArray, List.set_cons_zero, List.set_cons_succ]
  (refine wpAnyP_takeL (i := 3) (v := ?_) rfl (by kernel_rfl) (by kernel_rfl) (by kernel_rfl) (fun _ _ _ h => h) (by rfl) ?_ ?_; rotate_left 1; focus (intro w; go_simp; try with_reducible rfl))
  try simp only [Act.put, List.setIfInBounds_toArray, List.set_cons_zero, List.set_cons_succ]
  (refine wpAnyP_takeL (i := 4) (v := ?_) rfl (by kernel_rfl) (by kernel_rfl) (by kernel_rfl) (fun _ _ _ h => h) (by rfl) ?_ ?_; rotate_left 1; focus (intro w; go_simp; try with_reducible rfl))
  try simp only [Act.put, List.setIfInBounds_toArray, List.set_cons_zero, List.set_cons_succ]
  (refine wpAnyP_takeL (i := 5) (v := ?_) rfl (by kernel_rfl) (by kernel_rfl) (by kernel_rfl) (fun _ _ _ h => h) (by rfl) ?_ ?_; rotate_left 1; focus (intro w; go_simp; try with_reducible rfl))
  try simp only [Act.put, List.setIfInBounds_toArray, List.set_cons_zero, List.set_cons_succ]
  (refine wpAnyP_takeL (i := 6) (v := ?_) rfl (by kernel_rfl) (by kernel_rfl) (by kernel_rfl) (fun _ _ _ h => h) (by rfl) ?_ ?_; rotate_left 1; focus (intro w; go_simp; try with_reducible rfl))
  try simp only [Act.put, List.setIfInBounds_toArray, List.set_cons_zero, List.set_cons_succ]
  (refine wpAnyP_takeL (i := 7) (v := ?_) rfl (by kernel_rfl) (by kernel_rfl) (by kernel_rfl) (fun _ _ _ h => h) (by rfl) ?_ ?_; rotate_left 1; focus (intro w; go_simp; try with_reducible rfl))
  try simp only [Act.put, List.setIfInBounds_toArray, List.set_cons_zero, List.set_cons_succ]
  (refine wpAnyP_takeL (i := 8) (v := ?_) rfl (by kernel_rfl) (by kernel_rfl) (by kernel_rfl) (fun _ _ _ h => h) (by rfl) ?_ ?_; rotate_left 1; focus (intro w; go_simp; try with_reducible rfl))
  try simp only [Act.put, List.setIfInBounds_toArray, List.set_cons_zero, List.set_cons_succ]
  (refine wpAnyP_takeL (i := 9) (v := ?_) rfl (by kernel_rfl) (by kernel_rfl) (by kernel_rfl) (fun _ _ _ h => h) (by rfl) ?_ ?_; rotate_left 1; focus (intro w; go_simp; try with_reducible rfl))
  try simp only [Act.put, List.setIfInBounds_toArray, List.set_cons_zero, List.set_cons_succ]
  (refine wpAnyP_takeL (i := 10) (v := ?_) rfl (by kernel_rfl) (by kernel_rfl) (by kernel_rfl) (fun _ _ _ h => h) (by rfl) ?_ ?_; rotate_left 1; focus (intro w; go_simp; try with_reducible rfl))
  try simp only [Act.put, List.setIfInBounds_toArray, List.set_cons_zero, List.set_cons_succ]
  (refine wpAnyP_takeL (i := 11) (v := ?_) rfl (by kernel_rfl) (by kernel_rfl) (by kernel_rfl) (fun _ _ _ h => h) (by rfl) ?_ ?_; rotate_left 1; focus (intro w; go_simp; try with_reducible rfl))
  try simp only [Act.put, List.setIfInBounds_toArray, List.set_cons_zero, List.set_cons_succ]
  (refine wpAnyP_takeL (i := 12) (v := ?_) rfl (by kernel_rfl) (by kernel_rfl) (by kernel_rfl) (fun _ _ _ h => h) (by rfl) ?_ ?_; rotate_left 1; focus (intro w; go_simp; try with_reducible rfl))
  try simp only [Act.put, List.setIfInBounds_toArray, List.set_cons_zero, List.set_cons_succ]
  (refine wpAnyP_takeL (i := 13) (v := ?_) rfl (by kernel_rfl) (by kernel_rfl) (by kernel_rfl) (fun _ _ _ h => h) (by rfl) ?_ ?_; rotate_left 1; focus (intro w; go_simp; try with_reducible rfl))
  try simp only [Act.put, List.setIfInBounds_toArray, List.set_cons_zero, List.set_cons_succ]
  (refine wpAnyP_takeL (i := 14) (v := ?_) rfl (by kernel_rfl) (by kernel_rfl) (by kernel_rfl) (fun _ _ _ h => h) (by rfl) ?_ ?_; rotate_left 1; focus (intro w; go_simp; try with_reducible rfl))
  try simp only [Act.put, List.setIfInBounds_toArray, List.set_cons_zero, List.set_cons_succ]
  (refine wpAnyP_loadL (i := 15) (v := ?_) rfl (by kernel_rfl) (by kernel_rfl) (by kernel_rfl) (by rfl) (fun _ _ _ h => h) hF0 (by rfl) ?_ ?_; rotate_left 1; focus (intro w hFw; (try dsimp only at hFw); go_split_ands; go_simp; try with_reducible rfl))
  try simp only [Act.put, List.setIfInBounds_toArray, List.set_cons_zero, List.set_cons_succ]
  refine wpAnyP_step (i := 16) rfl (by kernel_rfl) (by rfl) (fun K hK => ?_)
  go_simp
  (refine (span_any _ _ _).mono ?_; rintro e w8 ⟨rfl, hB8⟩; have K8 := Lib.hid (K7.out.below hB8 K7.out.lt); have HS8 := Lib.hid (HS7.out.old hB8); have HB8 := Lib.hid (Below.step hB8 HB7.out (Nat.le_refl _)); clear hB8)
  (refine hK _ _ (⟨K8.out.cell 0, K8.out.cell 1⟩) (fun hF1 => ?_); clear hK K hF0)
  try simp only [Act.put, List.setIfInBounds_toArray, List.set_cons_zero, List.set_cons_succ]
  (refine wpAnyP_takeL (i := 17) (v := ?_) rfl (by kernel_rfl) (by kernel_rfl) (by kernel_rfl) (fun _ _ _ h => h) (by rfl) ?_ ?_; rotate_left 1; focus (intro w; go_simp; try with_reducible rfl))
  try simp only [Act.put, List.setIfInBounds_toArray, List.set_cons_zero, List.set_cons_succ]
  (refine wpAnyP_takeL (i := 18) (v := ?_) rfl (by kernel_rfl) (by kernel_rfl) (by kernel_rfl) (fun _ _ _ h => h) (by rfl) ?_ ?_; rotate_left 1; focus (intro w; go_simp; try with_reducible rfl))
  try simp only [Act.put, List.setIfInBounds_toArray, List.set_cons_zero, List.set_cons_succ]
  (refine wpAnyP_takeL (i := 19) (v := ?_) rfl (by kernel_rfl) (by kernel_rfl) (by kernel_rfl) (fun _ _ _ h => h) (by rfl) ?_ ?_; rotate_left 1; focus (intro w; go_simp; try with_reducible rfl))
  try simp only [Act.put, List.setIfInBounds_toArray, List.set_cons_zero, List.set_cons_succ]
  (refine wpAnyP_takeL (i := 20) (v := ?_) rfl (by kernel_rfl) (by kernel_rfl) (by kernel_rfl) (fun _ _ _ h => h) (by rfl) ?_ ?_; rotate_left 1; focus (intro w; go_simp; try with_reducible rfl))
  try simp only [Act.put, List.setIfInBounds_toArray, List.set_cons_zero, List.set_cons_succ]
  refine wpAnyP_step (i := 21) rfl (by kernel_rfl) (by rfl) (fun K hK => ?_)
  go_simp
  (refine (span_any _ _ _).mono ?_; rintro e w9 ⟨rfl, hB9⟩; have K9 := Lib.hid (K8.out.below hB9 K8.out.lt); have HS9 := Lib.hid (HS8.out.old hB9); have HB9 := Lib.hid (Below.step hB9 HB8.out (Nat.le_refl _)); clear hB9)
  (refine hK _ _ (⟨K9.out.cell 0, K9.out.cell 1⟩) (fun hF2 => ?_); clear hK K hF1)
  try simp only [Act.put, List.setIfInBounds_toArray, List.set_cons_zero, List.set_cons_succ]
  refine wpAnyP_step (i := 22) rfl (by kernel_rfl) (by rfl) (fun K hK => ?_)
  go_simp
  (refine (span_any _ _ _).mono ?_; rintro e wa ⟨rfl, hBa⟩; have Ka := Lib.hid (K9.out.below hBa K9.out.lt); have HSa := Lib.hid (HS9.out.old hBa); have HBa := Lib.hid (Below.step hBa HB9.out (Nat.le_refl _)); clear hBa)
  (refine hK _ _ (⟨Ka.out.cell 0, Ka.out.cell 1⟩) (fun hF3 => ?_); clear hK K hF2)
  try simp only [Act.put, List.setIfInBounds_toArray, List.set_cons_zero, List.set_cons_succ]
  refine wpAnyP_step (i := 23) rfl (by kernel_rfl) (by rfl) (fun K hK => ?_)
  go_simp
  (refine hK _ _ (⟨(Ka.out.alloc _).cell 0, (Ka.out.alloc _).cell 1⟩) (fun hF4 => ?_); clear hK K hF3)
  try simp only [Act.put, List.setIfInBounds_toArray, List.set_cons_zero, List.set_cons_succ]
  refine wpAnyP_step (i := 24) rfl (by kernel_rfl) (by rfl) (fun K hK => ?_)
  go_simp
  (refine (sameSpans_any b5 wa.heap.size 2 2 c5 2 A5 _ [⟨50, 95⟩, ⟨140, 321⟩] [⟨50, 95⟩, ⟨140, 321⟩] _ (HSa.out.alloc _) (Sl.new encR_len wa [⟨50, 95⟩, ⟨140, 321⟩] _ _ rfl) (by omega)).mono ?_; rintro e wb ⟨rfl, hBb⟩; have Kb := Lib.hid ((Ka.out.alloc _).below hBb (Ka.out.alloc _).lt); have HBb := Lib.hid (Below.step hBb (HBa.out.alloc HBa.out.size _) (Nat.le_refl _)); clear hBb)
  (refine hK _ _ (⟨Kb.out.cell 0, Kb.out.cell 1⟩) (fun hF5 => ?_); clear hK K hF4)
  try simp only [Act.put, List.setIfInBounds_toArray, List.set_cons_zero, List.set_cons_succ]
  (refine wpAnyP_takeL (i := 25) (v := ?_) rfl (by kernel_rfl) (by kernel_rfl) (by kernel_rfl) (fun _ _ _ h => h) (by rfl) ?_ ?_; rotate_left 1; focus (intro w; go_simp; try with_reducible rfl))
  try simp only [Act.put, List.setIfInBounds_toArray, List.set_cons_zero, List.set_cons_succ]
  (refine wpAnyP_takeL (i := 26) (v := ?_) rfl (by kernel_rfl) (by kernel_rfl) (by kernel_rfl) (fun _ _ _ h => h) (by rfl) ?_ ?_; rotate_left 1; focus (intro w; go_simp; try with_reducible rfl))
  try simp only [Act.put, List.setIfInBounds_toArray, List.set_cons_zero, List.set_cons_succ]
  (refine wpAnyP_takeL (i := 27) (v := ?_) rfl (by kernel_rfl) (by kernel_rfl) (by kernel_rfl) (fun _ _ _ h => h) (by rfl) ?_ ?_; rotate_left 1; focus (intro w; go_simp; try with_reducible rfl))
  try simp only [Act.put, List.setIfInBounds_toArray, List.set_cons_zero, List.set_cons_succ]
  (refine wpAnyP_takeL (i := 28) (v := ?_) rfl (by kernel_rfl) (by kernel_rfl) (by kernel_rfl) (fun _ _ _ h => h) (by rfl) ?_ ?_; rotate_left 1; focus (intro w; go_simp; try with_reducible rfl))
  try simp only [Act.put, List.setIfInBounds_toArray, List.set_cons_zero, List.set_cons_succ]
  (refine wpAnyP_takeL (i := 29) (v := ?_) rfl (by kernel_rfl) (by kernel_rfl) (by kernel_rfl) (fun _ _ _ h => h) (by rfl) ?_ ?_; rotate_left 1; focus (intro w; go_simp; try with_reducible rfl))
  try simp only [Act.put, List.setIfInBounds_toArray, List.set_cons_zero, List.set_cons_succ]
  (refine wpAnyP_takeL (i := 30) (v := ?_) rfl (by kernel_rfl) (by kernel_rfl) (by kernel_rfl) (fun _ _ _ h => h) (by rfl) ?_ ?_; rotate_left 1; focus (intro w; go_simp; try with_reducible rfl))
  try simp only [Act.put, List.setIfInBounds_toArray, List.set_cons_zero, List.set_cons_succ]
  refine wpAnyP_done (by kernel_rfl) ?_ _
  go_wp2_with fail
  go_ret
  exact ⟨rfl, HBb.out⟩
end Go.Proofs.Ytkcdknjgjidnnaa
