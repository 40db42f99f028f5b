/- The known frames of the statements of layer 3. Conditions: none. -/
import Derived.Test.YtgbnaifjdfoahaaFrameTake
import Derived.Test.YtgbnaifjdfoahaaSliceB
namespace Go.Proofs.Ytgbnaifjdfoahaa.Frame
open Go.RowKit Wire

theorem frame_ab : ∃ y q : List UInt8, y.length = 11 ∧ frameB [97, 98] = y ∧ y[0]? = some 2 ∧ q.length = 12 ∧ takeF q = ([97, 98], 11, 0) ∧ ByteArray.mk y.toArray ++ ByteArray.mk #[122] = ByteArray.mk q.toArray := by
  have h := take_put [97, 98] [122] (by decide) (by decide)
  have hl : (frameB [97, 98]).length = 11 := by rw [frame_len _ (by decide)]; rfl
  rw [hl] at h
  exact ⟨frameB [97, 98], frameB [97, 98] ++ [122], hl, rfl, rfl, by rw [List.length_append, hl]; rfl, h, add_str _ _⟩
theorem take_zero : takeF [0] = ([], 0, 4) := rfl
set_option linter.unusedSimpArgs false in
set_option maxRecDepth 100000 in
set_option maxHeartbeats 4000000 in
theorem wakes3_any (w : World) : Calls Try.prog 30 #[] w fun e w' => e = .returned (.bool true) ∧ Below w.heap.size w w' := by
  obtain ⟨y, q, hy, hf, hy0, hq, ht, HA⟩ := frame_ab
  have h1 := bytes_one_f w (r := 120) (by decide) (1, 2)
  have hp := fput_ok (some ⟨w.heap.size, 0, none⟩) 1 [120] [97, 98] (by decide) (by decide) (by decide) _ h1
  have b1 := below_one w (.cells #[.int .u8 120] 5 (1, 2))
  rw [hf] at hp
  have ht2 := ftake_any q (by omega)
  rw [ht] at ht2
  have ht3 := ftake_any [0] (by decide)
  rw [take_zero] at ht3
  have HP := Lib.hid hp
  have HT2 := Lib.hid ht2
  have HT3 := Lib.hid ht3
  have HY := Lib.hid hy0
  have HYL := Lib.hid hy
  have hcv0 := bytes_const w #[.int .u8 120] 1 1
  clear hp hf ht ht2 ht3 h1 hy0 hy hq
  go_enter Try.func30, Try.ntmps30
  go_wp2_with fail
  refine HP.out.mono ?_; rintro e w2 ⟨v, rfl, hown, hB⟩
  have hl12 : ([120] ++ y).length = 12 := by rw [List.length_append, HYL.out]; rfl
  rw [hl12] at hown
  obtain ⟨A, c, rfl, hc, hr⟩ := own_slice1c hown
  obtain ⟨ad, rfl, hb, hcell⟩ := hr.2 (by decide)
  have c0 : w2.cell? ad = some (.int .u8 120) := hcell 0 (.int .u8 120) rfl
  have c1 : w2.cell? {block := ad.block, off := ad.off + 1} = some (.int .u8 2) := hcell 1 (.int .u8 2) (by
    show (bv y)[0]? = _
    unfold bv
    rw [List.getElem?_map, HY.out]
    rfl)
  have hr2 : Reads w2 w2.heap.size 1 (some {block := ad.block, off := ad.off + 1}) 11 (bv y) := by
    have h := hr.cut (k := 1) (cap := c) (by decide) hc
    rw [if_neg (by omega)] at h
    exact h
  have hcv := conv_str Try.underlying40 Try.underlying5 Try.underlying9 (c - 1) hr2
  clear hr hr2 hcell hown hl12 hb
  have hns : ¬ 9223372036854775807 < y.length + 1 := by rw [HYL.out]; decide
  go_wp2_with fail
  refine (HT2.out _).mono ?_; rintro e w3 ⟨rfl, hB3⟩
  go_wp2_with fail
  refine (HT3.out _).mono ?_; rintro e w4 ⟨rfl, hB4⟩
  go_wp2_with fail
  go_ret
  have s1 := b1.size
  have s2 := hB.size
  have s3 := hB3.size
  exact ⟨rfl, ((b1.trans (hB.mono s1)).trans (hB3.mono (Nat.le_trans s1 s2))).trans (hB4.mono (Nat.le_trans (Nat.le_trans s1 s2) s3))⟩
end Go.Proofs.Ytgbnaifjdfoahaa.Frame
