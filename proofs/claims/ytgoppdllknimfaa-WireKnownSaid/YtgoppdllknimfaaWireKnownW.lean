/- The walk of WireKnown: examples of the document. Conditions: none. -/
import Derived.Test.YtgoppdllknimfaaWireWakes
import Derived.OpenShut
namespace Go.Proofs.Ytgoppdllknimfaa.WireKnownW
open Go.RowKit Wire

set_option maxRecDepth 100000 in
set_option maxHeartbeats 4000000 in
theorem walk (w : World) : Calls Try.prog 8 #[] w fun e w' => e = .returned (.bool true) ∧ Below w.heap.size w w' := by
  have a1 := alloc_rd w ⟨0, [248, 5]⟩
  have b1 : Below w.heap.size w (w.alloc (.cells (rdC ⟨0, [248, 5]⟩) 80)) := (Below.refl _ w).alloc (Nat.le_refl _) _
  go_enter Try.func8, Try.ntmps8
  go_wp2_with fail
  refine (of_any [248, 5] _).mono ?_; rintro e w' ⟨rfl, rfl⟩
  go_wp2_with fail
  refine (num_eq (p := (0, ⟨4, []⟩)) rfl (by simp) _ a1).mono ?_; rintro e w1 ⟨rfl, g1⟩
  have z1 : w.heap.size < w1.heap.size := g1.1.lt
  have B1 := b1.trans (only_below g1.2 (Nat.le_refl _) (by simp))
  clear a1 b1
  go_wp2_with fail
  have a2 := alloc_rd w1 ⟨0, [5, 97]⟩
  refine (of_any [5, 97] _).mono ?_; rintro e w' ⟨rfl, rfl⟩
  go_wp2_with fail
  refine (str_eq (p := ([], ⟨3, [97]⟩)) rfl (by omega) (by omega) (by simp) _ a2).mono ?_; rintro e w2 ⟨rfl, g2⟩
  have z2 : w1.heap.size < w2.heap.size := g2.1.lt
  have k12 : Below w1.heap.size w1 w2 := ((Below.refl _ w1).alloc (Nat.le_refl _) _).trans (only_below g2.2 (Nat.le_refl _) (by simp))
  have r1 : RdAt w2 w.heap.size ⟨4, []⟩ := Blk.below g1.1 k12 z1
  have B2 := B1.trans (k12.mono (by omega))
  go_wp2_with fail
  have a3 := alloc_rd w2 ⟨0, [5, 97]⟩
  refine (of_any [5, 97] _).mono ?_; rintro e w' ⟨rfl, rfl⟩
  go_wp2_with fail
  refine (str_eq (p := ([], ⟨4, [97]⟩)) rfl (by omega) (by omega) (by simp) _ a3).mono ?_; rintro e w3 ⟨rfl, g3⟩
  have z3 : w2.heap.size < w3.heap.size := g3.1.lt
  have k23 : Below w2.heap.size w2 w3 := ((Below.refl _ w2).alloc (Nat.le_refl _) _).trans (only_below g3.2 (Nat.le_refl _) (by simp))
  have r1 : RdAt w3 w.heap.size ⟨4, []⟩ := Blk.below r1 k23 (by omega)
  have r2 : RdAt w3 w1.heap.size ⟨3, [97]⟩ := Blk.below g2.1 k23 z2
  have B3 := B2.trans (k23.mono (by omega))
  go_wp2_with fail
  refine (of_any [255, 1, 2, 3, 4, 5, 6, 7, 8] _).mono ?_; rintro e w' ⟨rfl, rfl⟩
  have a4 := alloc_rd w3 ⟨0, [255, 1, 2, 3, 4, 5, 6, 7, 8]⟩
  have k34 : Below w3.heap.size w3 (w3.alloc (.cells (rdC ⟨0, [255, 1, 2, 3, 4, 5, 6, 7, 8]⟩) 80)) := (Below.refl _ w3).alloc (Nat.le_refl _) _
  go_wp2_with fail
  refine (num_put0 247 (by omega) [247] rfl _).mono ?_; rintro e w4 ⟨A, c, rfl, hr, hB4⟩
  have hcv := conv_str (n := 1) Try.underlying37 Try.underlying5 Try.underlying9 c hr
  have k34 := k34.trans (hB4.mono (by simp))
  have r4 : RdAt w4 w3.heap.size ⟨0, [255, 1, 2, 3, 4, 5, 6, 7, 8]⟩ := Blk.below a4 hB4 (by simp)
  have z4 : w3.heap.size < w4.heap.size := r4.lt
  clear hB4 a4 hr
  go_wp2_with fail
  clear hcv
  refine (num_put0 248 (by omega) [248, 248] rfl _).mono ?_; rintro e w5 ⟨A, c, rfl, hr, hB5⟩
  have hcv := conv_str (n := 2) Try.underlying37 Try.underlying5 Try.underlying9 c hr
  go_wp2_with fail
  clear hcv hr
  refine (str_put0 [97, 98] (by simp) [2, 97, 98] rfl _).mono ?_; rintro e w6 ⟨A, c, rfl, hr, hB6⟩
  have hcv := conv_str (n := 3) Try.underlying37 Try.underlying5 Try.underlying9 c hr
  have k36 := (k34.trans (hB5.mono (by omega))).trans (hB6.mono (by have := hB5.size; omega))
  have r1 : RdAt w6 w.heap.size ⟨4, []⟩ := Blk.below r1 k36 (by omega)
  have r2 : RdAt w6 w1.heap.size ⟨3, [97]⟩ := Blk.below r2 k36 (by omega)
  have r3 : RdAt w6 w2.heap.size ⟨4, [97]⟩ := Blk.below g3.1 k36 (by omega)
  have r4 : RdAt w6 w3.heap.size ⟨0, [255, 1, 2, 3, 4, 5, 6, 7, 8]⟩ := Blk.below r4 (hB5.trans (hB6.mono hB5.size)) z4
  have B6 := B3.trans (k36.mono (by omega))
  have z6 : w3.heap.size < w6.heap.size := r4.lt
  clear hr hB5 hB6 k34 k36
  go_wp2_with fail
  clear hcv
  refine (err_any _ _ _ r1).mono ?_; rintro e w' ⟨rfl, rfl⟩
  go_wp2_with fail
  refine (err_any _ _ _ r2).mono ?_; rintro e w' ⟨rfl, rfl⟩
  go_wp2_with fail
  refine (err_any _ _ _ r3).mono ?_; rintro e w' ⟨rfl, rfl⟩
  go_wp2_with fail
  refine (num_eq (p := (72623859790382856, ⟨0, []⟩)) rfl (by simp) _ r4).mono ?_; rintro e w7 ⟨rfl, g7⟩
  go_wp2_with fail
  refine (end_eq (p := ⟨0, []⟩) rfl _ g7.1).mono ?_; rintro e w8 ⟨rfl, g8⟩
  have B7 := B6.trans (only_below g7.2 (by omega) (by omega))
  have B8 := B7.trans (only_below g8.2 (by omega) (by have := g7.2.size; omega))
  go_wp2_with fail
  refine (wakes_any _).mono ?_; rintro e w9 ⟨rfl, hb⟩
  go_wp2_with fail
  go_ret
  exact ⟨rfl, B8.trans (hb.mono B8.size)⟩
end Go.Proofs.Ytgoppdllknimfaa.WireKnownW
