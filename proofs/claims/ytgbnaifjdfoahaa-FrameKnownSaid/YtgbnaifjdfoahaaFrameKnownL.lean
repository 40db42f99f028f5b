/- FrameKnown, walked. Conditions: none. -/
import Derived.Test.YtgbnaifjdfoahaaFrameRef
namespace Go.Proofs.Ytgbnaifjdfoahaa.Frame
open Go.RowKit Wire

theorem take_short3 : takeF [1, 0, 0] = ([], 0, 3) := rfl
theorem frames_nil : framesOf [] = [] ∧ endOf [] = 0 ∧ whyOf [] = 0 := ⟨rfl, rfl, rfl⟩
theorem made_reads (W : World) (N : Nat) : Reads (W.alloc (.cells (madeCells #[.int .u8 0] N) 5)) (W.alloc (.cells (madeCells #[.int .u8 0] N) 5)).heap.size 1 (some ⟨W.heap.size, 0, none⟩) N (bv (List.replicate N 0)) := by
  have hb := Blk.new W 5 (madeCells #[.int .u8 0] N)
  refine ⟨by rw [bv_length, List.length_replicate, Nat.mul_one], fun _ => ⟨_, rfl, by simp, fun j u hu => ?_⟩⟩
  unfold bv at hu
  rw [List.map_replicate, List.getElem?_replicate] at hu
  split at hu
  · rename_i hj
    have e := hb.cell j
    have e2 : (⟨W.heap.size, 0, none⟩ : Addr).add j = ⟨W.heap.size, j, none⟩ := by
      unfold Addr.add
      split
      · rename_i h0; subst h0; rfl
      · simp
    rw [e2, e, ← hu, ← Array.getElem?_toList, toList_madeCells_one, List.getElem?_replicate, if_pos hj]
    rfl
  · cases hu
theorem big_facts : ∃ (N : Nat) (big y : List UInt8), N = 65536 ∧ List.replicate N 0 = big ∧ big.length = N ∧ frameB big = y ∧ takeF y = (big, y.length, 0) ∧ y.length ≤ 100000 := by
  have hl : (List.replicate 65536 (0 : UInt8)).length = 65536 := List.length_replicate
  generalize hb : List.replicate 65536 (0 : UInt8) = big at *
  have ht := take_put big [] (by omega) (by omega)
  rw [List.append_nil] at ht
  have h9 := frame_len9 big (by omega)
  exact ⟨65536, big, frameB big, rfl, hb, hl, rfl, ht, by omega⟩
set_option linter.unusedSimpArgs false in
set_option maxRecDepth 100000 in
set_option maxHeartbeats 4000000 in
theorem fknown_any (w : World) : Calls Try.prog 8 #[] w fun e w' => e = .returned (.bool true) ∧ Below w.heap.size w w' := by
  obtain ⟨i0, hi, hz0, hz1, hz2⟩ := info_parts info_u8
  obtain ⟨N, big, y, hN, hbig, hbl, hfy, hty, hyl⟩ := big_facts
  have hmk : ∀ W : World, (Instr.makeSlice 40 (.int .i64 65536) (.int .i64 65536)).run Try.prog W = .ok (.slice (some ⟨W.heap.size, 0, none⟩) N N) (W.alloc (.cells (madeCells #[.int .u8 0] N) 5)) := fun W => by
    have h := run_make_rowN (P := Try.prog) 40 5 i0 (.int .u8 0) Try.underlying40 hi hz0 .i64 .i64 N N (Nat.le_refl _) (by rw [hz2]; omega) (by omega) W
    rw [hz1, Nat.mul_one] at h
    have e : ((N : Nat) : Int) = 65536 := by omega
    rw [e] at h
    exact h
  have hr0 := made_reads w N
  rw [hbig] at hr0
  have hcv0 := conv_str Try.underlying40 Try.underlying5 Try.underlying9 N hr0
  have b0 := below_one w (.cells (madeCells #[.int .u8 0] N) 5)
  have hp1 := fun W => fput_ok none 0 [] big (by simp) (by omega) (by omega) W Reads.none_
  rw [List.nil_append, hfy] at hp1
  have hq1 := fun W A c hr => fput_bad A c [113] (big ++ [120]) (by decide) (.inr (by rw [List.length_append, hbl]; simp; omega)) W hr
  have hq2 := fun W => fput_bad none 0 [] [] (by decide) (.inl rfl) W Reads.none_
  have ht1 := fun W => ftake_any y (by omega) W
  rw [hty] at ht1
  have ht2 := fun W => ftake_any [1, 0, 0] (by decide) W
  rw [take_short3] at ht2
  have hs1 := fun W => split_any [] (by decide) W
  have HP1 := Lib.hid hp1
  have HQ1 := Lib.hid hq1
  have HQ2 := Lib.hid hq2
  have HT1 := Lib.hid ht1
  have HT2 := Lib.hid ht2
  have HS1 := Lib.hid hs1
  have HA := add_str big [120]
  have hns : ¬ 9223372036854775807 < big.length + 1 := by omega
  have hszb := size_str big
  have HBL := Lib.hid hbl
  clear hp1 hq1 hq2 ht1 ht2 hs1 hty hr0 hbig hN hfy hbl
  generalize hy : y.length = L at *
  have HY := Lib.hid hy
  clear hy
  go_enter Try.func8, Try.ntmps8
  go_wp2_with fail
  refine (HP1.out _).mono ?_; rintro e w1 ⟨v1, rfl, own1, B1⟩
  rw [HY.out] at own1
  obtain ⟨A1, c1, rfl, r1⟩ := own_slice1 own1
  have B1 := b0.trans (B1.mono b0.size)
  clear own1
  have hcc := bytes_const w1 #[.int .u8 113] 1 1
  have hr2 := bytes_one_f w1 (r := 113) (by decide) (1, 2)
  go_wp2_with fail
  refine (HQ1.out _ _ _ hr2).mono ?_; rintro e w2 ⟨v2, rfl, own2, B2⟩
  obtain ⟨A2, c2, rfl, r2⟩ := own_slice1 own2
  have b1 := below_one w1 (.cells #[.int .u8 113] 5 (1, 2))
  have B12 := b1.trans (B2.mono b1.size)
  have r1 := (r1.below B12).more B12.size
  have B2 := B1.trans (B12.mono B1.size)
  clear own2 hr2 hcc b1 B12
  go_wp2_with fail
  refine (HQ2.out _).mono ?_; rintro e w3 ⟨v3, rfl, own3, B3⟩
  obtain ⟨A3, c3, rfl, _⟩ := own_slice1 own3
  have r2 := (r2.below B3).more B3.size
  have r1 := (r1.below B3).more B3.size
  have B3 := B2.trans (B3.mono B2.size)
  have hcb := conv_str Try.underlying40 Try.underlying5 Try.underlying9 c1 r1
  clear own3
  go_wp2_with fail
  refine (HT1.out _).mono ?_; rintro e w4 ⟨rfl, B4⟩
  have r2 := (r2.below B4).more B4.size
  have B4 := B3.trans (B4.mono B3.size)
  clear hcb r1
  go_wp2_with fail
  refine (HT2.out _).mono ?_; rintro e w5 ⟨rfl, B5⟩
  have r2 := (r2.below B5).more B5.size
  have B5 := B4.trans (B5.mono B4.size)
  go_wp2_with fail
  refine (HS1.out _).mono ?_; rintro e w6 ⟨v6, rfl, own6, B6⟩
  have r2 := (r2.below B6).more B6.size
  have B6 := B5.trans (B6.mono B5.size)
  rw [frames_nil.1] at own6
  rw [frames_nil.2.1, frames_nil.2.2]
  obtain ⟨A6, c6, rfl, _⟩ := own_slice1 own6
  have hcb := conv_str (n := 1) (l := [113]) Try.underlying40 Try.underlying5 Try.underlying9 c2 r2
  clear own6 r2 B5 B4 B3 B2 B1 b0
  go_wp2_with fail
  refine (wakes3_any _).mono ?_; rintro e w7 ⟨rfl, B7⟩
  go_wp2_with fail
  go_ret
  exact ⟨rfl, B6.trans (B7.mono B6.size)⟩
end Go.Proofs.Ytgbnaifjdfoahaa.Frame
