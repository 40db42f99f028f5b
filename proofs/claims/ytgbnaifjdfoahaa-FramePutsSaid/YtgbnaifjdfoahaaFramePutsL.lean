/- FramePuts, walked. Conditions: the arguments are of their types. -/
import Derived.Test.YtgbnaifjdfoahaaFrameWakes
import Derived.Deep.RegionHeldLaw
namespace Go.Proofs.Ytgbnaifjdfoahaa.Frame
open Go.RowKit Wire

set_option linter.unusedSimpArgs false in
set_option maxRecDepth 100000 in
set_option maxHeartbeats 4000000 in
theorem fputs_any (b s : List UInt8) (A : Option Addr) (c : Nat) (hb : b.length ≤ 9223372036854775807) (hs : s.length ≤ 9223372036854775807) (w : World) (hr : Reads w w.heap.size 1 A b.length (bv b)) :
    Calls Try.prog 6 #[.slice A b.length c, .string ⟨s.toArray⟩] w fun e w' => e = .returned (.bool true) ∧ Below w.heap.size w w' := by
  have hsz := size_str s
  obtain ⟨i0, hi, hz0, hz1, hz2⟩ := info_parts info_u8
  by_cases hb2 : 3000 < b.length
  · have hb3 : (3000 : Int) < (b.length : Int) := by omega
    clear hb2
    go_enter Try.func6, Try.ntmps6
    go_wp2_with fail
    refine (wakes3_any _).mono ?_; rintro e w' ⟨rfl, hb⟩
    go_wp2_with fail
    go_ret
    exact ⟨rfl, hb⟩
  by_cases hs2 : 3000 < s.length
  · have hb3 : ¬ (3000 : Int) < (b.length : Int) := by omega
    have hs3 : (3000 : Int) < (s.length : Int) := by omega
    clear hs2
    go_enter Try.func6, Try.ntmps6
    go_wp2_with fail
    refine (wakes3_any _).mono ?_; rintro e w' ⟨rfl, hb⟩
    go_wp2_with fail
    go_ret
    exact ⟨rfl, hb⟩
  have hb3 : ¬ (3000 : Int) < (b.length : Int) := by omega
  have hs3 : ¬ (3000 : Int) < (s.length : Int) := by omega
  have hcv := conv_str Try.underlying40 Try.underlying5 Try.underlying9 c hr
  have HR := Lib.hid hr
  clear hr
  by_cases h0 : s = []
  · subst h0
    have hp := fun A1 c1 W hW => fput_bad A1 c1 b [] (by omega) (.inl rfl) W hW
    have HP := Lib.hid hp
    clear hp
    go_enter Try.func6, Try.ntmps6
    go_wp2_with (at_builtin; go_must (refine wpList_append_any _ rfl (.const (.slice none 0 0)) (.tmp 20) _ rfl w.heap.size 5 i0 (.int .u8 0) 1 1 Try.underlying40 hi hz0 hz1 hz2 rfl (by omega) (.slice none 0 0) 0 [] rfl (World.ownsRow_nil _ _ _ _) w.heap.size A b.length c (bv b) rfl HR.out (bv_one _) (by simp only [maxLen]; omega) (by omega) (Nat.le_refl _) ?_); intro v1 w1 hown1 hg1 hat1; simp only [Nat.zero_add, List.nil_append] at hown1; have B1 := (Below.refl w.heap.size w).grown hg1 (Nat.le_refl _) (by simp [Value.ownBlock]); obtain ⟨A1, c1, rfl, r1⟩ := own_slice1 hown1; clear hown1 hg1 hat1)
    refine (HP.out _ _ _ r1).mono ?_; rintro e w2 ⟨v, rfl, hown, B2⟩
    obtain ⟨A2, c2, rfl, r2⟩ := own_slice1 hown
    have hcv2 := conv_str Try.underlying40 Try.underlying5 Try.underlying9 c2 r2
    clear r2 hown
    go_wp2_with fail
    refine (wakes3_any _).mono ?_; rintro e w3 ⟨rfl, B3⟩
    go_wp2_with fail
    go_ret
    have B02 := B1.trans (B2.mono B1.size)
    exact ⟨rfl, B02.trans (B3.mono B02.size)⟩
  · have h1 : 0 < s.length := List.length_pos_iff.2 h0
    have hne : (s == []) = false := beq_eq_false_iff_ne.2 h0
    have hp := fun A1 c1 W hW => fput_ok A1 c1 b s (by omega) h1 (by omega) W hW
    have hf := fun W => refFrame_any s (by omega) W
    have hfl := frame_len9 s (by omega)
    generalize frameB s = f at *
    have HP := Lib.hid hp
    have HF := Lib.hid hf
    have ad1 := add_str b f
    have hpl : (b ++ f).length = b.length + f.length := List.length_append
    have lt1 : ¬ (9223372036854775807 < b.length + f.length) := by omega
    have HPL := Lib.hid hpl
    clear hp hf h0 h1 hfl hpl
    go_enter Try.func6, Try.ntmps6
    go_wp2_with (at_builtin; go_must (refine wpList_append_any _ rfl (.const (.slice none 0 0)) (.tmp 20) _ rfl w.heap.size 5 i0 (.int .u8 0) 1 1 Try.underlying40 hi hz0 hz1 hz2 rfl (by omega) (.slice none 0 0) 0 [] rfl (World.ownsRow_nil _ _ _ _) w.heap.size A b.length c (bv b) rfl HR.out (bv_one _) (by simp only [maxLen]; omega) (by omega) (Nat.le_refl _) ?_); intro v1 w1 hown1 hg1 hat1; simp only [Nat.zero_add, List.nil_append] at hown1; have B1 := (Below.refl w.heap.size w).grown hg1 (Nat.le_refl _) (by simp [Value.ownBlock]); obtain ⟨A1, c1, rfl, r1⟩ := own_slice1 hown1; clear hown1 hg1 hat1)
    refine (HP.out _ _ _ r1).mono ?_; rintro e w2 ⟨v, rfl, hown, B2⟩
    rw [HPL.out] at hown
    obtain ⟨A2, c2, rfl, r2⟩ := own_slice1 hown
    have B02 := (B1.trans (B2.mono B1.size)).drew
    have r2 := r2.drew
    clear hown
    go_wp2_with fail
    go_region_held_law (fun _ => True) (trivial) (first
      | (go_simp; go_at_call 32; (with_reducible refine (HF.out _).mono ?_); rintro e w3 ⟨rfl, B3⟩; have B03 := B02.trans (B3.mono B02.size))
      | (refine upon_conv Try.underlying40 Try.underlying5 Try.underlying9 r2 ?_)
      | (refine upon_conv Try.underlying40 Try.underlying5 Try.underlying9 (r2.below B3) ?_)
      | (go_simp; go_at_call 30; (with_reducible refine (wakes3_any _).mono ?_); rintro e w4 ⟨rfl, B4⟩; have B04 := B03.trans (B4.mono B03.size)))
    all_goals
      go_wp2_with fail
      go_ret
      exact ⟨by simp, B04⟩
end Go.Proofs.Ytgbnaifjdfoahaa.Frame
