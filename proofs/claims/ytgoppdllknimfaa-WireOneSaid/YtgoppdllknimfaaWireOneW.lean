/- The walk of WireOne: one row a number. Conditions: the arguments can be read. -/
import Derived.Test.YtgoppdllknimfaaWireWakes
import Derived.Test.YtgoppdllknimfaaWireLaw
import Derived.Deep.RegionWith
import Derived.OpenShut
namespace Go.Proofs.Ytgoppdllknimfaa.WireOneW
open Go.RowKit Wire

/-- A slice of bytes is that text, in every later world. -/
def ConvAt (A : Option Addr) (n c : Nat) (l : List UInt8) (w : World) : Prop :=
  ∀ W : World, Below w.heap.size w W → (convert 37 9 (.slice A n c)).run Try.prog W = .ok (.string ⟨l.toArray⟩) W
theorem conv_at {w : World} {A : Option Addr} {n : Nat} {l : List UInt8} (c : Nat) (h : Reads w w.heap.size 1 A n (bv l)) : ConvAt A n c l w := fun _ hb =>
  conv_str Try.underlying37 Try.underlying5 Try.underlying9 c (h.below hb)

set_option maxRecDepth 100000 in
set_option maxHeartbeats 4000000 in
theorem core (s : List UInt8) (n m : Nat) (hn : n < 18446744073709551616) (hm : m < 18446744073709551616) (hs : s.length ≤ 9223372036854775807) (w : World) :
    Calls Try.prog 7 #[.string ⟨s.toArray⟩, .int .u64 (n : Int), .int .u64 (m : Int)] w fun e w' => e = .returned (.bool true) ∧ Below w.heap.size w w' := by
  have hsz := size_str s
  by_cases h12 : 12 < s.length
  · go_enter Try.func7, Try.ntmps7
    go_wp2_with (go_at_call 24; refine (wakes_any _).mono ?_; rintro e w' ⟨rfl, hb⟩)
    go_ret
    exact ⟨rfl, hb⟩
  · obtain ⟨x, r, hxr⟩ : ∃ x r, Rd.num ⟨0, s⟩ = (x, r) := ⟨_, _, rfl⟩
    have hx := num_lt hxr
    have hend := num_end s
    rw [hxr] at hend
    have HX := Lib.hid hxr
    clear hxr
    have a1 := alloc_rd w ⟨0, s⟩
    have b1 : Below w.heap.size w (w.alloc (.cells (rdC ⟨0, s⟩) 80)) := (Below.refl _ w).alloc (Nat.le_refl _) _
    obtain ⟨ee, hee⟩ : ∃ ee, r.end_ = ee := ⟨_, rfl⟩
    rw [hee] at hend
    have HE := Lib.hid hee
    have HEND := Lib.hid hend
    clear hee hend
    by_cases h0 : ee.err = 0
    · have t1 : ((ee.err : Int) == 0) = true := by rw [h0]; rfl
      have t2 := HEND.out h0
      clear h0
      have T2 : Hid (numB x = s) := t2
      have t3 : (s == s) = true := beq_self_eq_true s
      clear t2
      go_enter Try.func7, Try.ntmps7
      go_wp2_with fail
      refine (of_any s _).mono ?_; rintro e w' ⟨rfl, rfl⟩
      go_wp2_with fail
      refine (num_eq HX.out (by simp; omega) _ a1).mono ?_; rintro e w1 ⟨rfl, g1⟩
      go_wp2_with fail
      refine (end_eq HE.out _ g1.1).mono ?_; rintro e w2 ⟨rfl, g2⟩
      have B2 := b1.trans (only_below (grown_step g1.2 g2.2) (Nat.le_refl _) (by simp))
      go_wp2_with fail
      refine (num_put0 x hx s T2.out _).mono ?_; rintro e wq ⟨A, c, rfl, hr, hB3⟩
      have hcv := conv_str Try.underlying37 Try.underlying5 Try.underlying9 c hr
      have BQ := B2.trans (hB3.mono B2.size)
      go_wp2_with fail
      clear hcv hr hB3 t1 t3 T2 B2 g1 g2 HEND HE HX b1 a1
      go_region_with (first | (go_at_call 25; (with_reducible refine (num_put0 n hn (numB n) rfl _).mono ?_); rintro e wa ⟨Aa, ca, rfl, hra, hBa⟩; have ka := conv_at ca hra; unfold ConvAt at ka; have ra := Below.refl wa.heap.size wa) | (go_at_call 25; (with_reducible refine (num_put0 m hm (numB m) rfl _).mono ?_); rintro e wb ⟨Ab, cb, rfl, hrb, hBb⟩; have kb := conv_at cb hrb; unfold ConvAt at kb; have rb := Below.refl wb.heap.size wb))
      all_goals
        have BB : Below w.heap.size w wb := (BQ.drew.trans (hBa.mono BQ.size)).trans (hBb.mono (Nat.le_trans BQ.size hBa.size))
        clear ka kb ra rb hra hrb hBa hBb BQ
        have zn := size_str (numB n)
        have zm := size_str (numB m)
        have al := alloc_rd wb ⟨0, numB n⟩
        have BL := BB.alloc BB.size (.cells (rdC ⟨0, numB n⟩) 80)
        have bp := below_put n m hn
        have hn9 := (numB_length n hn).1
        have hm9 := (numB_length m hm).1
        have HN := Lib.hid zn
        rcases Nat.lt_trichotomy n m with hlt | heq | hgt
        · have e1 : (numB n == numB m) = false := beq_eq_false_iff_ne.2 (fun h => by have := numB_inj n m hn hm h; omega)
          have e2 : ((n : Int) == (m : Int)) = false := beq_eq_false_iff_ne.2 (by omega)
          rw [if_neg (by omega)] at bp
          have BP := Lib.hid bp
          have hle := numB_len n m hlt hm
          clear bp
          go_wp2_with fail
          refine (of_any (numB n) _).mono ?_; rintro e w' ⟨rfl, rfl⟩
          go_wp2_with fail
          refine (below_eq BP.out (by simp only; omega) _ al).mono ?_; rintro e w7 ⟨rfl, g7⟩
          have B7 := BL.trans (only_below g7.2 BB.size (by simp; exact Nat.le_trans BB.size (Nat.le_succ _)))
          by_cases hl2 : (numB n).length < (numB m).length
          · go_wp2_with (first
              | (go_at_call 33; refine (err_any _ _ _ g7.1).mono ?_; rintro e w' ⟨rfl, rfl⟩)
              | (go_at_call 24; refine (wakes_any _).mono ?_; rintro e w9 ⟨rfl, hb⟩))
            go_ret
            exact ⟨rfl, B7.trans (hb.mono B7.size)⟩
          · have hl3 : (((numB n).length : Int) == ((numB m).length : Int)) = true := by rw [beq_iff_eq]; omega
            go_wp2_with (first
              | (go_at_call 33; refine (err_any _ _ _ g7.1).mono ?_; rintro e w' ⟨rfl, rfl⟩)
              | (go_at_call 24; refine (wakes_any _).mono ?_; rintro e w9 ⟨rfl, hb⟩))
            go_ret
            exact ⟨rfl, B7.trans (hb.mono B7.size)⟩
        · subst heq
          rw [if_pos (by omega)] at bp
          have BP := Lib.hid bp
          clear bp
          go_wp2_with fail
          refine (of_any (numB n) _).mono ?_; rintro e w' ⟨rfl, rfl⟩
          go_wp2_with fail
          refine (below_eq BP.out (by simp only; omega) _ al).mono ?_; rintro e w7 ⟨rfl, g7⟩
          have B7 := BL.trans (only_below g7.2 BB.size (by simp; exact Nat.le_trans BB.size (Nat.le_succ _)))
          by_cases hz : n = 0
          · have hz2 : ((0 : Int) == (n : Int)) = true := by rw [hz]; rfl
            clear hz
            go_wp2_with (first
              | (go_at_call 33; refine (err_any _ _ _ g7.1).mono ?_; rintro e w' ⟨rfl, rfl⟩)
              | (go_at_call 24; refine (wakes_any _).mono ?_; rintro e w9 ⟨rfl, hb⟩))
            go_ret
            exact ⟨rfl, B7.trans (hb.mono B7.size)⟩
          · have hz2 : ((0 : Int) == (n : Int)) = false := beq_eq_false_iff_ne.2 (by omega)
            go_wp2_with (first
              | (go_at_call 33; refine (err_any _ _ _ g7.1).mono ?_; rintro e w' ⟨rfl, rfl⟩)
              | (go_at_call 24; refine (wakes_any _).mono ?_; rintro e w9 ⟨rfl, hb⟩))
            go_ret
            exact ⟨rfl, B7.trans (hb.mono B7.size)⟩
        · have e1 : (numB n == numB m) = false := beq_eq_false_iff_ne.2 (fun h => by have := numB_inj n m hn hm h; omega)
          have e2 : ((n : Int) == (m : Int)) = false := beq_eq_false_iff_ne.2 (by omega)
          rw [if_pos (by omega)] at bp
          have BP := Lib.hid bp
          have hle := numB_len m n hgt hn
          clear bp
          have hz2 : ((0 : Int) == (n : Int)) = false := beq_eq_false_iff_ne.2 (by omega)
          have hd : decide (n < m) = false := decide_eq_false (by omega)
          go_wp2_with fail
          refine (of_any (numB n) _).mono ?_; rintro e w' ⟨rfl, rfl⟩
          go_wp2_with fail
          refine (below_eq BP.out (by simp only; omega) _ al).mono ?_; rintro e w7 ⟨rfl, g7⟩
          have B7 := BL.trans (only_below g7.2 BB.size (by simp; exact Nat.le_trans BB.size (Nat.le_succ _)))
          go_wp2_with (first
            | (go_at_call 33; refine (err_any _ _ _ g7.1).mono ?_; rintro e w' ⟨rfl, rfl⟩)
            | (go_at_call 24; refine (wakes_any _).mono ?_; rintro e w9 ⟨rfl, hb⟩))
          go_ret
          exact ⟨rfl, B7.trans (hb.mono B7.size)⟩
    · have t1 : ((ee.err : Int) == 0) = false := beq_eq_false_iff_ne.2 (by omega)
      clear h0
      go_enter Try.func7, Try.ntmps7
      go_wp2_with fail
      refine (of_any s _).mono ?_; rintro e w' ⟨rfl, rfl⟩
      go_wp2_with fail
      refine (num_eq HX.out (by simp; omega) _ a1).mono ?_; rintro e w1 ⟨rfl, g1⟩
      go_wp2_with fail
      refine (end_eq HE.out _ g1.1).mono ?_; rintro e wq ⟨rfl, g2⟩
      have BQ := b1.trans (only_below (grown_step g1.2 g2.2) (Nat.le_refl _) (by simp))
      go_wp2_with fail
      clear t1 g1 g2 HEND HE HX b1 a1
      go_region_with (first | (go_at_call 25; (with_reducible refine (num_put0 n hn (numB n) rfl _).mono ?_); rintro e wa ⟨Aa, ca, rfl, hra, hBa⟩; have ka := conv_at ca hra; unfold ConvAt at ka; have ra := Below.refl wa.heap.size wa) | (go_at_call 25; (with_reducible refine (num_put0 m hm (numB m) rfl _).mono ?_); rintro e wb ⟨Ab, cb, rfl, hrb, hBb⟩; have kb := conv_at cb hrb; unfold ConvAt at kb; have rb := Below.refl wb.heap.size wb))
      all_goals
        have BB : Below w.heap.size w wb := (BQ.drew.trans (hBa.mono BQ.size)).trans (hBb.mono (Nat.le_trans BQ.size hBa.size))
        clear ka kb ra rb hra hrb hBa hBb BQ
        have zn := size_str (numB n)
        have zm := size_str (numB m)
        have al := alloc_rd wb ⟨0, numB n⟩
        have BL := BB.alloc BB.size (.cells (rdC ⟨0, numB n⟩) 80)
        have bp := below_put n m hn
        have hn9 := (numB_length n hn).1
        have hm9 := (numB_length m hm).1
        have HN := Lib.hid zn
        rcases Nat.lt_trichotomy n m with hlt | heq | hgt
        · have e1 : (numB n == numB m) = false := beq_eq_false_iff_ne.2 (fun h => by have := numB_inj n m hn hm h; omega)
          have e2 : ((n : Int) == (m : Int)) = false := beq_eq_false_iff_ne.2 (by omega)
          rw [if_neg (by omega)] at bp
          have BP := Lib.hid bp
          have hle := numB_len n m hlt hm
          clear bp
          go_wp2_with fail
          refine (of_any (numB n) _).mono ?_; rintro e w' ⟨rfl, rfl⟩
          go_wp2_with fail
          refine (below_eq BP.out (by simp only; omega) _ al).mono ?_; rintro e w7 ⟨rfl, g7⟩
          have B7 := BL.trans (only_below g7.2 BB.size (by simp; exact Nat.le_trans BB.size (Nat.le_succ _)))
          by_cases hl2 : (numB n).length < (numB m).length
          · go_wp2_with (first
              | (go_at_call 33; refine (err_any _ _ _ g7.1).mono ?_; rintro e w' ⟨rfl, rfl⟩)
              | (go_at_call 24; refine (wakes_any _).mono ?_; rintro e w9 ⟨rfl, hb⟩))
            go_ret
            exact ⟨rfl, B7.trans (hb.mono B7.size)⟩
          · have hl3 : (((numB n).length : Int) == ((numB m).length : Int)) = true := by rw [beq_iff_eq]; omega
            go_wp2_with (first
              | (go_at_call 33; refine (err_any _ _ _ g7.1).mono ?_; rintro e w' ⟨rfl, rfl⟩)
              | (go_at_call 24; refine (wakes_any _).mono ?_; rintro e w9 ⟨rfl, hb⟩))
            go_ret
            exact ⟨rfl, B7.trans (hb.mono B7.size)⟩
        · subst heq
          rw [if_pos (by omega)] at bp
          have BP := Lib.hid bp
          clear bp
          go_wp2_with fail
          refine (of_any (numB n) _).mono ?_; rintro e w' ⟨rfl, rfl⟩
          go_wp2_with fail
          refine (below_eq BP.out (by simp only; omega) _ al).mono ?_; rintro e w7 ⟨rfl, g7⟩
          have B7 := BL.trans (only_below g7.2 BB.size (by simp; exact Nat.le_trans BB.size (Nat.le_succ _)))
          by_cases hz : n = 0
          · have hz2 : ((0 : Int) == (n : Int)) = true := by rw [hz]; rfl
            clear hz
            go_wp2_with (first
              | (go_at_call 33; refine (err_any _ _ _ g7.1).mono ?_; rintro e w' ⟨rfl, rfl⟩)
              | (go_at_call 24; refine (wakes_any _).mono ?_; rintro e w9 ⟨rfl, hb⟩))
            go_ret
            exact ⟨rfl, B7.trans (hb.mono B7.size)⟩
          · have hz2 : ((0 : Int) == (n : Int)) = false := beq_eq_false_iff_ne.2 (by omega)
            go_wp2_with (first
              | (go_at_call 33; refine (err_any _ _ _ g7.1).mono ?_; rintro e w' ⟨rfl, rfl⟩)
              | (go_at_call 24; refine (wakes_any _).mono ?_; rintro e w9 ⟨rfl, hb⟩))
            go_ret
            exact ⟨rfl, B7.trans (hb.mono B7.size)⟩
        · have e1 : (numB n == numB m) = false := beq_eq_false_iff_ne.2 (fun h => by have := numB_inj n m hn hm h; omega)
          have e2 : ((n : Int) == (m : Int)) = false := beq_eq_false_iff_ne.2 (by omega)
          rw [if_pos (by omega)] at bp
          have BP := Lib.hid bp
          have hle := numB_len m n hgt hn
          clear bp
          have hz2 : ((0 : Int) == (n : Int)) = false := beq_eq_false_iff_ne.2 (by omega)
          have hd : decide (n < m) = false := decide_eq_false (by omega)
          go_wp2_with fail
          refine (of_any (numB n) _).mono ?_; rintro e w' ⟨rfl, rfl⟩
          go_wp2_with fail
          refine (below_eq BP.out (by simp only; omega) _ al).mono ?_; rintro e w7 ⟨rfl, g7⟩
          have B7 := BL.trans (only_below g7.2 BB.size (by simp; exact Nat.le_trans BB.size (Nat.le_succ _)))
          go_wp2_with (first
            | (go_at_call 33; refine (err_any _ _ _ g7.1).mono ?_; rintro e w' ⟨rfl, rfl⟩)
            | (go_at_call 24; refine (wakes_any _).mono ?_; rintro e w9 ⟨rfl, hb⟩))
          go_ret
          exact ⟨rfl, B7.trans (hb.mono B7.size)⟩

theorem walk {H : Type} {enc : TypeId × Value → H} (W : World) (base : Nat) (v0 : Value) (d0 : DataW H) (p0 : List MemPlace) (v1 : Value) (d1 : DataW H) (p1 : List MemPlace) (v2 : Value) (d2 : DataW H) (p2 : List MemPlace)
    (h0 : DataW.Trod enc Try.prog W 0 (fun _ => true) true 9 v0 d0 p0) (h1 : DataW.Trod enc Try.prog W 0 (fun _ => true) true 23 v1 d1 p1) (h2 : DataW.Trod enc Try.prog W 0 (fun _ => true) true 23 v2 d2 p2)
    (k0 : Value.okWide Try.prog W .any base 9 v0) (k1 : Value.okWide Try.prog W .any base 23 v1) (k2 : Value.okWide Try.prog W .any base 23 v2)
    (_l0 : ∀ x ∈ p0, x.block < W.heap.size) (_l1 : ∀ x ∈ p1, x.block < W.heap.size) (_l2 : ∀ x ∈ p2, x.block < W.heap.size) :
    Calls Try.prog 7 #[v0, v1, v2] W fun e w' => e = .returned (.bool true) ∧ Below W.heap.size W w' := by
  obtain ⟨s, rfl, _, _, ws⟩ := ChangeMaps.open_string Try.underlying9 k0 h0
  obtain ⟨a1, rfl, _, _, w1⟩ := ChangeShapes.open_int Try.underlying23 k1 h1
  obtain ⟨a2, rfl, _, _, w2⟩ := ChangeShapes.open_int Try.underlying23 k2 h2
  have b1 := bounds_u64 w1
  have b2 := bounds_u64 w2
  obtain ⟨n, rfl⟩ := Int.eq_ofNat_of_zero_le b1.1
  obtain ⟨m, rfl⟩ := Int.eq_ofNat_of_zero_le b2.1
  obtain ⟨⟨l⟩⟩ := s
  exact core l n m (by omega) (by omega) (by have := ws; unfold maxLen at this; rw [size_str] at this; omega) W
end Go.Proofs.Ytgoppdllknimfaa.WireOneW
