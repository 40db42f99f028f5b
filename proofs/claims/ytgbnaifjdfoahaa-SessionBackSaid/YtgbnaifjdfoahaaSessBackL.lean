/- The law SessionBack walked. Conditions: what the arguments' types say. -/
import Derived.Test.YtgbnaifjdfoahaaSessBackP
import Derived.Test.YtgbnaifjdfoahaaSessOpenTab
import Derived.Test.YtgbnaifjdfoahaaSessReadsL
import Derived.Test.YtgbnaifjdfoahaaWireConv
namespace Go.Proofs.Ytgbnaifjdfoahaa.Sess
open Go.RowKit Wire

def goodB (e : Ent) : Bool := decide (e.code ≤ 3 ∧ e.text.size ≤ 64 ∧ (e.seq = 0 → eqR e.code 0 e.text noText = true))
theorem good_of {e : Ent} (hf : e.Fits) (h : goodB e = true) : e.Good := by
  obtain ⟨h1, h2, h3⟩ := of_decide_eq_true h
  refine ⟨hf.1, h1, h2, fun h0 => ?_⟩
  have h4 := h3 h0
  obtain ⟨es, ec, et⟩ := e
  unfold eqR at h4
  simp only [Bool.and_true, Bool.and_eq_true, beq_iff_eq] at h4 h0
  obtain ⟨h5, h6⟩ := h4
  have h7 := toList_inj _ _ h6
  unfold zE
  rw [h0, h7, show ec = 0 from by omega]
theorem run_neq_reply (w : World) (e : Ent) : (Op.equalIn 10000 27 (.agg #[.int .u8 (e.code : Int), .string e.text]) (.agg #[.int .u8 0, .string ⟨#[]⟩])).run Try.prog w = .ok (eqR e.code 0 e.text noText) w := run_eq_reply 9998 w e.code 0 e.text noText
theorem tabB_len4 (t : Nat → Ent) (h : ∀ c, c < 4 → (t c).Ok) : (tabB t).length ≤ 4076 := by
  have h0 := entB_len _ (h 0 (by omega))
  have h1 := entB_len _ (h 1 (by omega))
  have h2 := entB_len _ (h 2 (by omega))
  have h3 := entB_len _ (h 3 (by omega))
  rw [tabB_four]
  simp only [List.length_append, List.length_nil]
  omega
def BkAt (a b : Nat → Ent) (w : World) (gk : Nat) (i : Value) (wr : World) : Prop :=
  ∃ k : Nat, k + gk = 4 ∧ i = .int .i64 (k : Int) ∧ (∀ c, c < k → goodB (a c) = true ∧ goodB (b c) = true) ∧ Kg [(w.heap.size + 1, 31, tabC b), (w.heap.size, 31, tabC a)] w wr
set_option linter.unusedSimpArgs false in
set_option maxRecDepth 100000 in
set_option maxHeartbeats 16000000 in
theorem sback_any (a b : Nat → Ent) (fa : ∀ c, c < 4 → (a c).Fits) (fb : ∀ c, c < 4 → (b c).Fits) (s : List UInt8) (hl : s.length ≤ 9223372036854775807) (w : World) :
    Calls Try.prog 5 #[tabV a, tabV b, .string ⟨s.toArray⟩] w fun e w' => e = .returned (.bool true) ∧ Below w.heap.size w w' := by
  have hsz := size_str s
  have k0 := kgn2 w 31 31 (tabC a) (tabC b)
  unfold tabV
  unfold tabC at k0 ⊢
  by_cases hl2 : 2000 < s.length
  · go_enter Try.func5, Try.ntmps5
    go_wp2_with fail
    refine (wakes12_any _).mono ?_; rintro e w1 ⟨rfl, B1⟩
    have kg := k0.below B1
    go_wp2
    go_ret
    exact ⟨rfl, kg.bw⟩
  have hA := Lib.hid fa
  have hB := Lib.hid fb
  clear fa fb
  go_enter Try.func5, Try.ntmps5
  go_wp2_with fail
  go_loopg [7] 4 (fun gk i wr => BkAt a b w gk i wr)
  case atStart => exact ⟨0, by omega, rfl, fun c hc => absurd hc (by omega), k0⟩
  case round =>
    clear k0
    obtain ⟨k, hk, rfl, hg, kg⟩ := hrel
    have s1 := kg.i1.lt
    simp only at s1
    by_cases h4 : k < 4
    · rcases (show k = 0 ∨ k = 1 ∨ k = 2 ∨ k = 3 by omega) with rfl | rfl | rfl | rfl
      · have kh := Lib.hid kg
        have hq := Lib.hid hg
        clear hg hA hB
        unfold tabC at kg
        obtain ⟨b0, b1, b2, b3, b4, b5, b6, b7, b8, b9, b10, b11⟩ := kg.i1.c12
        obtain ⟨a0, a1, a2, a3, a4, a5, a6, a7, a8, a9, a10, a11⟩ := kg.i2.c12
        simp only at a0 a1 a2 a3 a4 a5 a6 a7 a8 a9 a10 a11 b0 b1 b2 b3 b4 b5 b6 b7 b8 b9 b10 b11
        clear kg a3 a4 a5 a6 a7 a8 a9 a10 a11 b3 b4 b5 b6 b7 b8 b9 b10 b11
        have ga : goodB (a 0) = decide ((a 0).code ≤ 3 ∧ (a 0).text.size ≤ 64 ∧ ((a 0).seq = 0 → eqR (a 0).code 0 (a 0).text noText = true)) := rfl
        have ra := fun w => run_neq_reply w (a 0)
        generalize hax : goodB (a 0) = za at ga
        have haz := Lib.hid hax
        clear hax
        have gb : goodB (b 0) = decide ((b 0).code ≤ 3 ∧ (b 0).text.size ≤ 64 ∧ ((b 0).seq = 0 → eqR (b 0).code 0 (b 0).text noText = true)) := rfl
        have rb := fun w => run_neq_reply w (b 0)
        generalize hbx : goodB (b 0) = zb at gb
        have hbz := Lib.hid hbx
        clear hbx
        generalize hxe : a 0 = x at *
        generalize hye : b 0 = y at *
        have HX := Lib.hid hxe
        have HY := Lib.hid hye
        clear hxe hye
        obtain ⟨xs, xc, xt⟩ := x
        obtain ⟨ys, yc, yt⟩ := y
        simp only at ga gb ra rb a0 a1 a2 b0 b1 b2
        generalize eqR xc 0 xt noText = ex at *
        generalize eqR yc 0 yt noText = ey at *
        have GA := Lib.hid ga
        have GB := Lib.hid gb
        clear ga gb
        go_upto_region 6 with fail
        go_cut [50] (fun s50 wx => s50 = .bool (!za) ∧ wx = wr)
        case first =>
          by_cases h1 : 64 < xt.size
          · obtain rfl : za = false := by rw [GA.out]; simp; omega
            go_wp2_with fail
            go_meet
            exact ⟨rfl, rfl⟩
          have h1 : ¬ 64 < (xt.size : Int) := by omega
          by_cases h2 : 3 < xc
          · obtain rfl : za = false := by rw [GA.out]; simp; omega
            have h2 : 3 < (xc : Int) := by omega
            go_wp2_with fail
            go_meet
            exact ⟨rfl, rfl⟩
          by_cases h3 : xs = 0
          · subst h3
            cases ex
            · obtain rfl : za = false := by rw [GA.out]; simp
              have h2 : ¬ 3 < (xc : Int) := by omega
              go_wp2_with fail
              go_meet
              exact ⟨rfl, rfl⟩
            · obtain rfl : za = true := by rw [GA.out]; simp; omega
              have h2 : ¬ 3 < (xc : Int) := by omega
              go_wp2_with fail
              go_meet
              exact ⟨rfl, rfl⟩
          · obtain rfl : za = true := by rw [GA.out]; simp; omega
            have h2 : ¬ 3 < (xc : Int) := by omega
            have h3 : ((xs : Int) == 0) = false := beq_eq_false_iff_ne.2 (by omega)
            go_wp2_with fail
            go_meet
            exact ⟨rfl, rfl⟩
        case rest =>
          obtain ⟨rfl, rfl⟩ := hcut
          cases za
          · go_wp2_with fail
            refine (wakes12_any _).mono ?_; rintro e w1 ⟨rfl, B1⟩
            go_wp2_with fail
            go_ret
            exact ⟨rfl, (kh.out.below B1).bw⟩
          go_upto_region 8 with fail
          go_cut [81] (fun s81 wx => s81 = .bool (!zb) ∧ wx = wc)
          case first =>
            by_cases h1 : 64 < yt.size
            · obtain rfl : zb = false := by rw [GB.out]; simp; omega
              go_wp2_with fail
              go_meet
              exact ⟨rfl, rfl⟩
            have h1 : ¬ 64 < (yt.size : Int) := by omega
            by_cases h2 : 3 < yc
            · obtain rfl : zb = false := by rw [GB.out]; simp; omega
              have h2 : 3 < (yc : Int) := by omega
              go_wp2_with fail
              go_meet
              exact ⟨rfl, rfl⟩
            by_cases h3 : ys = 0
            · subst h3
              cases ey
              · obtain rfl : zb = false := by rw [GB.out]; simp
                have h2 : ¬ 3 < (yc : Int) := by omega
                go_wp2_with fail
                go_meet
                exact ⟨rfl, rfl⟩
              · obtain rfl : zb = true := by rw [GB.out]; simp; omega
                have h2 : ¬ 3 < (yc : Int) := by omega
                go_wp2_with fail
                go_meet
                exact ⟨rfl, rfl⟩
            · obtain rfl : zb = true := by rw [GB.out]; simp; omega
              have h2 : ¬ 3 < (yc : Int) := by omega
              have h3 : ((ys : Int) == 0) = false := beq_eq_false_iff_ne.2 (by omega)
              go_wp2_with fail
              go_meet
              exact ⟨rfl, rfl⟩
          case rest =>
            obtain ⟨rfl, rfl⟩ := hcut
            cases zb
            · go_wp2_with fail
              refine (wakes12_any _).mono ?_; rintro e w1 ⟨rfl, B1⟩
              go_wp2_with fail
              go_ret
              exact ⟨rfl, (kh.out.below B1).bw⟩
            go_wp2_with fail
            go_roundg (4 - (0 + 1))
            case measure => omega
            case rel => exact ⟨0 + 1, by omega, by go_num, fun c hc => by
              rcases Nat.lt_or_ge c 0 with h | h
              · exact hq.out c h
              · obtain rfl : c = 0 := by omega
                exact ⟨by rw [HX.out]; exact haz.out, by rw [HY.out]; exact hbz.out⟩, kh.out⟩
      · have kh := Lib.hid kg
        have hq := Lib.hid hg
        clear hg hA hB
        unfold tabC at kg
        obtain ⟨b0, b1, b2, b3, b4, b5, b6, b7, b8, b9, b10, b11⟩ := kg.i1.c12
        obtain ⟨a0, a1, a2, a3, a4, a5, a6, a7, a8, a9, a10, a11⟩ := kg.i2.c12
        simp only at a0 a1 a2 a3 a4 a5 a6 a7 a8 a9 a10 a11 b0 b1 b2 b3 b4 b5 b6 b7 b8 b9 b10 b11
        clear kg a0 a1 a2 a6 a7 a8 a9 a10 a11 b0 b1 b2 b6 b7 b8 b9 b10 b11
        have ga : goodB (a 1) = decide ((a 1).code ≤ 3 ∧ (a 1).text.size ≤ 64 ∧ ((a 1).seq = 0 → eqR (a 1).code 0 (a 1).text noText = true)) := rfl
        have ra := fun w => run_neq_reply w (a 1)
        generalize hax : goodB (a 1) = za at ga
        have haz := Lib.hid hax
        clear hax
        have gb : goodB (b 1) = decide ((b 1).code ≤ 3 ∧ (b 1).text.size ≤ 64 ∧ ((b 1).seq = 0 → eqR (b 1).code 0 (b 1).text noText = true)) := rfl
        have rb := fun w => run_neq_reply w (b 1)
        generalize hbx : goodB (b 1) = zb at gb
        have hbz := Lib.hid hbx
        clear hbx
        generalize hxe : a 1 = x at *
        generalize hye : b 1 = y at *
        have HX := Lib.hid hxe
        have HY := Lib.hid hye
        clear hxe hye
        obtain ⟨xs, xc, xt⟩ := x
        obtain ⟨ys, yc, yt⟩ := y
        simp only at ga gb ra rb a3 a4 a5 b3 b4 b5
        generalize eqR xc 0 xt noText = ex at *
        generalize eqR yc 0 yt noText = ey at *
        have GA := Lib.hid ga
        have GB := Lib.hid gb
        clear ga gb
        go_upto_region 6 with fail
        go_cut [50] (fun s50 wx => s50 = .bool (!za) ∧ wx = wr)
        case first =>
          by_cases h1 : 64 < xt.size
          · obtain rfl : za = false := by rw [GA.out]; simp; omega
            go_wp2_with fail
            go_meet
            exact ⟨rfl, rfl⟩
          have h1 : ¬ 64 < (xt.size : Int) := by omega
          by_cases h2 : 3 < xc
          · obtain rfl : za = false := by rw [GA.out]; simp; omega
            have h2 : 3 < (xc : Int) := by omega
            go_wp2_with fail
            go_meet
            exact ⟨rfl, rfl⟩
          by_cases h3 : xs = 0
          · subst h3
            cases ex
            · obtain rfl : za = false := by rw [GA.out]; simp
              have h2 : ¬ 3 < (xc : Int) := by omega
              go_wp2_with fail
              go_meet
              exact ⟨rfl, rfl⟩
            · obtain rfl : za = true := by rw [GA.out]; simp; omega
              have h2 : ¬ 3 < (xc : Int) := by omega
              go_wp2_with fail
              go_meet
              exact ⟨rfl, rfl⟩
          · obtain rfl : za = true := by rw [GA.out]; simp; omega
            have h2 : ¬ 3 < (xc : Int) := by omega
            have h3 : ((xs : Int) == 0) = false := beq_eq_false_iff_ne.2 (by omega)
            go_wp2_with fail
            go_meet
            exact ⟨rfl, rfl⟩
        case rest =>
          obtain ⟨rfl, rfl⟩ := hcut
          cases za
          · go_wp2_with fail
            refine (wakes12_any _).mono ?_; rintro e w1 ⟨rfl, B1⟩
            go_wp2_with fail
            go_ret
            exact ⟨rfl, (kh.out.below B1).bw⟩
          go_upto_region 8 with fail
          go_cut [81] (fun s81 wx => s81 = .bool (!zb) ∧ wx = wc)
          case first =>
            by_cases h1 : 64 < yt.size
            · obtain rfl : zb = false := by rw [GB.out]; simp; omega
              go_wp2_with fail
              go_meet
              exact ⟨rfl, rfl⟩
            have h1 : ¬ 64 < (yt.size : Int) := by omega
            by_cases h2 : 3 < yc
            · obtain rfl : zb = false := by rw [GB.out]; simp; omega
              have h2 : 3 < (yc : Int) := by omega
              go_wp2_with fail
              go_meet
              exact ⟨rfl, rfl⟩
            by_cases h3 : ys = 0
            · subst h3
              cases ey
              · obtain rfl : zb = false := by rw [GB.out]; simp
                have h2 : ¬ 3 < (yc : Int) := by omega
                go_wp2_with fail
                go_meet
                exact ⟨rfl, rfl⟩
              · obtain rfl : zb = true := by rw [GB.out]; simp; omega
                have h2 : ¬ 3 < (yc : Int) := by omega
                go_wp2_with fail
                go_meet
                exact ⟨rfl, rfl⟩
            · obtain rfl : zb = true := by rw [GB.out]; simp; omega
              have h2 : ¬ 3 < (yc : Int) := by omega
              have h3 : ((ys : Int) == 0) = false := beq_eq_false_iff_ne.2 (by omega)
              go_wp2_with fail
              go_meet
              exact ⟨rfl, rfl⟩
          case rest =>
            obtain ⟨rfl, rfl⟩ := hcut
            cases zb
            · go_wp2_with fail
              refine (wakes12_any _).mono ?_; rintro e w1 ⟨rfl, B1⟩
              go_wp2_with fail
              go_ret
              exact ⟨rfl, (kh.out.below B1).bw⟩
            go_wp2_with fail
            go_roundg (4 - (1 + 1))
            case measure => omega
            case rel => exact ⟨1 + 1, by omega, by go_num, fun c hc => by
              rcases Nat.lt_or_ge c 1 with h | h
              · exact hq.out c h
              · obtain rfl : c = 1 := by omega
                exact ⟨by rw [HX.out]; exact haz.out, by rw [HY.out]; exact hbz.out⟩, kh.out⟩
      · have kh := Lib.hid kg
        have hq := Lib.hid hg
        clear hg hA hB
        unfold tabC at kg
        obtain ⟨b0, b1, b2, b3, b4, b5, b6, b7, b8, b9, b10, b11⟩ := kg.i1.c12
        obtain ⟨a0, a1, a2, a3, a4, a5, a6, a7, a8, a9, a10, a11⟩ := kg.i2.c12
        simp only at a0 a1 a2 a3 a4 a5 a6 a7 a8 a9 a10 a11 b0 b1 b2 b3 b4 b5 b6 b7 b8 b9 b10 b11
        clear kg a0 a1 a2 a3 a4 a5 a9 a10 a11 b0 b1 b2 b3 b4 b5 b9 b10 b11
        have ga : goodB (a 2) = decide ((a 2).code ≤ 3 ∧ (a 2).text.size ≤ 64 ∧ ((a 2).seq = 0 → eqR (a 2).code 0 (a 2).text noText = true)) := rfl
        have ra := fun w => run_neq_reply w (a 2)
        generalize hax : goodB (a 2) = za at ga
        have haz := Lib.hid hax
        clear hax
        have gb : goodB (b 2) = decide ((b 2).code ≤ 3 ∧ (b 2).text.size ≤ 64 ∧ ((b 2).seq = 0 → eqR (b 2).code 0 (b 2).text noText = true)) := rfl
        have rb := fun w => run_neq_reply w (b 2)
        generalize hbx : goodB (b 2) = zb at gb
        have hbz := Lib.hid hbx
        clear hbx
        generalize hxe : a 2 = x at *
        generalize hye : b 2 = y at *
        have HX := Lib.hid hxe
        have HY := Lib.hid hye
        clear hxe hye
        obtain ⟨xs, xc, xt⟩ := x
        obtain ⟨ys, yc, yt⟩ := y
        simp only at ga gb ra rb a6 a7 a8 b6 b7 b8
        generalize eqR xc 0 xt noText = ex at *
        generalize eqR yc 0 yt noText = ey at *
        have GA := Lib.hid ga
        have GB := Lib.hid gb
        clear ga gb
        go_upto_region 6 with fail
        go_cut [50] (fun s50 wx => s50 = .bool (!za) ∧ wx = wr)
        case first =>
          by_cases h1 : 64 < xt.size
          · obtain rfl : za = false := by rw [GA.out]; simp; omega
            go_wp2_with fail
            go_meet
            exact ⟨rfl, rfl⟩
          have h1 : ¬ 64 < (xt.size : Int) := by omega
          by_cases h2 : 3 < xc
          · obtain rfl : za = false := by rw [GA.out]; simp; omega
            have h2 : 3 < (xc : Int) := by omega
            go_wp2_with fail
            go_meet
            exact ⟨rfl, rfl⟩
          by_cases h3 : xs = 0
          · subst h3
            cases ex
            · obtain rfl : za = false := by rw [GA.out]; simp
              have h2 : ¬ 3 < (xc : Int) := by omega
              go_wp2_with fail
              go_meet
              exact ⟨rfl, rfl⟩
            · obtain rfl : za = true := by rw [GA.out]; simp; omega
              have h2 : ¬ 3 < (xc : Int) := by omega
              go_wp2_with fail
              go_meet
              exact ⟨rfl, rfl⟩
          · obtain rfl : za = true := by rw [GA.out]; simp; omega
            have h2 : ¬ 3 < (xc : Int) := by omega
            have h3 : ((xs : Int) == 0) = false := beq_eq_false_iff_ne.2 (by omega)
            go_wp2_with fail
            go_meet
            exact ⟨rfl, rfl⟩
        case rest =>
          obtain ⟨rfl, rfl⟩ := hcut
          cases za
          · go_wp2_with fail
            refine (wakes12_any _).mono ?_; rintro e w1 ⟨rfl, B1⟩
            go_wp2_with fail
            go_ret
            exact ⟨rfl, (kh.out.below B1).bw⟩
          go_upto_region 8 with fail
          go_cut [81] (fun s81 wx => s81 = .bool (!zb) ∧ wx = wc)
          case first =>
            by_cases h1 : 64 < yt.size
            · obtain rfl : zb = false := by rw [GB.out]; simp; omega
              go_wp2_with fail
              go_meet
              exact ⟨rfl, rfl⟩
            have h1 : ¬ 64 < (yt.size : Int) := by omega
            by_cases h2 : 3 < yc
            · obtain rfl : zb = false := by rw [GB.out]; simp; omega
              have h2 : 3 < (yc : Int) := by omega
              go_wp2_with fail
              go_meet
              exact ⟨rfl, rfl⟩
            by_cases h3 : ys = 0
            · subst h3
              cases ey
              · obtain rfl : zb = false := by rw [GB.out]; simp
                have h2 : ¬ 3 < (yc : Int) := by omega
                go_wp2_with fail
                go_meet
                exact ⟨rfl, rfl⟩
              · obtain rfl : zb = true := by rw [GB.out]; simp; omega
                have h2 : ¬ 3 < (yc : Int) := by omega
                go_wp2_with fail
                go_meet
                exact ⟨rfl, rfl⟩
            · obtain rfl : zb = true := by rw [GB.out]; simp; omega
              have h2 : ¬ 3 < (yc : Int) := by omega
              have h3 : ((ys : Int) == 0) = false := beq_eq_false_iff_ne.2 (by omega)
              go_wp2_with fail
              go_meet
              exact ⟨rfl, rfl⟩
          case rest =>
            obtain ⟨rfl, rfl⟩ := hcut
            cases zb
            · go_wp2_with fail
              refine (wakes12_any _).mono ?_; rintro e w1 ⟨rfl, B1⟩
              go_wp2_with fail
              go_ret
              exact ⟨rfl, (kh.out.below B1).bw⟩
            go_wp2_with fail
            go_roundg (4 - (2 + 1))
            case measure => omega
            case rel => exact ⟨2 + 1, by omega, by go_num, fun c hc => by
              rcases Nat.lt_or_ge c 2 with h | h
              · exact hq.out c h
              · obtain rfl : c = 2 := by omega
                exact ⟨by rw [HX.out]; exact haz.out, by rw [HY.out]; exact hbz.out⟩, kh.out⟩
      · have kh := Lib.hid kg
        have hq := Lib.hid hg
        clear hg hA hB
        unfold tabC at kg
        obtain ⟨b0, b1, b2, b3, b4, b5, b6, b7, b8, b9, b10, b11⟩ := kg.i1.c12
        obtain ⟨a0, a1, a2, a3, a4, a5, a6, a7, a8, a9, a10, a11⟩ := kg.i2.c12
        simp only at a0 a1 a2 a3 a4 a5 a6 a7 a8 a9 a10 a11 b0 b1 b2 b3 b4 b5 b6 b7 b8 b9 b10 b11
        clear kg a0 a1 a2 a3 a4 a5 a6 a7 a8 b0 b1 b2 b3 b4 b5 b6 b7 b8
        have ga : goodB (a 3) = decide ((a 3).code ≤ 3 ∧ (a 3).text.size ≤ 64 ∧ ((a 3).seq = 0 → eqR (a 3).code 0 (a 3).text noText = true)) := rfl
        have ra := fun w => run_neq_reply w (a 3)
        generalize hax : goodB (a 3) = za at ga
        have haz := Lib.hid hax
        clear hax
        have gb : goodB (b 3) = decide ((b 3).code ≤ 3 ∧ (b 3).text.size ≤ 64 ∧ ((b 3).seq = 0 → eqR (b 3).code 0 (b 3).text noText = true)) := rfl
        have rb := fun w => run_neq_reply w (b 3)
        generalize hbx : goodB (b 3) = zb at gb
        have hbz := Lib.hid hbx
        clear hbx
        generalize hxe : a 3 = x at *
        generalize hye : b 3 = y at *
        have HX := Lib.hid hxe
        have HY := Lib.hid hye
        clear hxe hye
        obtain ⟨xs, xc, xt⟩ := x
        obtain ⟨ys, yc, yt⟩ := y
        simp only at ga gb ra rb a9 a10 a11 b9 b10 b11
        generalize eqR xc 0 xt noText = ex at *
        generalize eqR yc 0 yt noText = ey at *
        have GA := Lib.hid ga
        have GB := Lib.hid gb
        clear ga gb
        go_upto_region 6 with fail
        go_cut [50] (fun s50 wx => s50 = .bool (!za) ∧ wx = wr)
        case first =>
          by_cases h1 : 64 < xt.size
          · obtain rfl : za = false := by rw [GA.out]; simp; omega
            go_wp2_with fail
            go_meet
            exact ⟨rfl, rfl⟩
          have h1 : ¬ 64 < (xt.size : Int) := by omega
          by_cases h2 : 3 < xc
          · obtain rfl : za = false := by rw [GA.out]; simp; omega
            have h2 : 3 < (xc : Int) := by omega
            go_wp2_with fail
            go_meet
            exact ⟨rfl, rfl⟩
          by_cases h3 : xs = 0
          · subst h3
            cases ex
            · obtain rfl : za = false := by rw [GA.out]; simp
              have h2 : ¬ 3 < (xc : Int) := by omega
              go_wp2_with fail
              go_meet
              exact ⟨rfl, rfl⟩
            · obtain rfl : za = true := by rw [GA.out]; simp; omega
              have h2 : ¬ 3 < (xc : Int) := by omega
              go_wp2_with fail
              go_meet
              exact ⟨rfl, rfl⟩
          · obtain rfl : za = true := by rw [GA.out]; simp; omega
            have h2 : ¬ 3 < (xc : Int) := by omega
            have h3 : ((xs : Int) == 0) = false := beq_eq_false_iff_ne.2 (by omega)
            go_wp2_with fail
            go_meet
            exact ⟨rfl, rfl⟩
        case rest =>
          obtain ⟨rfl, rfl⟩ := hcut
          cases za
          · go_wp2_with fail
            refine (wakes12_any _).mono ?_; rintro e w1 ⟨rfl, B1⟩
            go_wp2_with fail
            go_ret
            exact ⟨rfl, (kh.out.below B1).bw⟩
          go_upto_region 8 with fail
          go_cut [81] (fun s81 wx => s81 = .bool (!zb) ∧ wx = wc)
          case first =>
            by_cases h1 : 64 < yt.size
            · obtain rfl : zb = false := by rw [GB.out]; simp; omega
              go_wp2_with fail
              go_meet
              exact ⟨rfl, rfl⟩
            have h1 : ¬ 64 < (yt.size : Int) := by omega
            by_cases h2 : 3 < yc
            · obtain rfl : zb = false := by rw [GB.out]; simp; omega
              have h2 : 3 < (yc : Int) := by omega
              go_wp2_with fail
              go_meet
              exact ⟨rfl, rfl⟩
            by_cases h3 : ys = 0
            · subst h3
              cases ey
              · obtain rfl : zb = false := by rw [GB.out]; simp
                have h2 : ¬ 3 < (yc : Int) := by omega
                go_wp2_with fail
                go_meet
                exact ⟨rfl, rfl⟩
              · obtain rfl : zb = true := by rw [GB.out]; simp; omega
                have h2 : ¬ 3 < (yc : Int) := by omega
                go_wp2_with fail
                go_meet
                exact ⟨rfl, rfl⟩
            · obtain rfl : zb = true := by rw [GB.out]; simp; omega
              have h2 : ¬ 3 < (yc : Int) := by omega
              have h3 : ((ys : Int) == 0) = false := beq_eq_false_iff_ne.2 (by omega)
              go_wp2_with fail
              go_meet
              exact ⟨rfl, rfl⟩
          case rest =>
            obtain ⟨rfl, rfl⟩ := hcut
            cases zb
            · go_wp2_with fail
              refine (wakes12_any _).mono ?_; rintro e w1 ⟨rfl, B1⟩
              go_wp2_with fail
              go_ret
              exact ⟨rfl, (kh.out.below B1).bw⟩
            go_wp2_with fail
            go_roundg (4 - (3 + 1))
            case measure => omega
            case rel => exact ⟨3 + 1, by omega, by go_num, fun c hc => by
              rcases Nat.lt_or_ge c 3 with h | h
              · exact hq.out c h
              · obtain rfl : c = 3 := by omega
                exact ⟨by rw [HX.out]; exact haz.out, by rw [HY.out]; exact hbz.out⟩, kh.out⟩
    · obtain rfl : k = 4 := by omega
      have ga : ∀ c, c < 4 → (a c).Good := fun c hc => good_of (hA.out c hc) (hg c hc).1
      have gb : ∀ c, c < 4 → (b c).Good := fun c hc => good_of (hB.out c hc) (hg c hc).2
      clear hg hA hB
      have HP0 : ∀ W, Calls Try.prog 22 #[tabV a, .slice none 0 0] W fun e w' => RetS W w' e (tabB a) := fun W => tabPut_any a (fun c hc => (ga c hc).ok) [] (by simp) none 0 W Reads.none_
      have HP := Lib.hid HP0
      clear HP0
      have HQ0 : ∀ W, Calls Try.prog 22 #[tabV b, .slice none 0 0] W fun e w' => RetS W w' e (tabB b) := fun W => tabPut_any b (fun c hc => (gb c hc).ok) [] (by simp) none 0 W Reads.none_
      have HQ := Lib.hid HQ0
      clear HQ0
      have hta := take_put a ga
      have hra := (rd_put a ga).1
      have hinj := tabB_inj a b ga gb
      have hla := tabB_len4 a (fun c hc => (ga c hc).ok)
      have hlb := tabB_len4 b (fun c hc => (gb c hc).ok)
      have HTK := Lib.hid (fun W g h => sessTake_any g ⟨0, tabB a⟩ (by show (tabB a).length ≤ _; omega) W h)
      unfold tabV at HTK HP HQ
      rw [hta, hra] at HTK
      have heqa := fun W => run_eq_tab W a a
      have heqb := fun W => run_eq_tab W a b
      have haa : eqT a a = true := (eqT_iff a a).2 (fun _ _ => rfl)
      rw [haa] at heqa
      generalize eqT a b = ex at *
      generalize tabB a = xa at *
      generalize tabB b = xb at *
      have HIN := Lib.hid hinj
      have HEA := Lib.hid heqa
      have HEB := Lib.hid heqb
      clear hinj heqa heqb haa hta hra ga gb
      have kg := kg.drew
      unfold tabV at *
      unfold tabC at *
      go_upto_region 10 with fail
      go_cut [8, 9] (fun s8 s9 wx => s8 = .string ⟨xa.toArray⟩ ∧ s9 = .string ⟨xb.toArray⟩ ∧ Kg [(w.heap.size + 1, 31, #[.int .u32 ((b 0).seq : Int), .int .u8 ((b 0).code : Int), .string (b 0).text, .int .u32 ((b 1).seq : Int), .int .u8 ((b 1).code : Int), .string (b 1).text, .int .u32 ((b 2).seq : Int), .int .u8 ((b 2).code : Int), .string (b 2).text, .int .u32 ((b 3).seq : Int), .int .u8 ((b 3).code : Int), .string (b 3).text]), (w.heap.size, 31, #[.int .u32 ((a 0).seq : Int), .int .u8 ((a 0).code : Int), .string (a 0).text, .int .u32 ((a 1).seq : Int), .int .u8 ((a 1).code : Int), .string (a 1).text, .int .u32 ((a 2).seq : Int), .int .u8 ((a 2).code : Int), .string (a 2).text, .int .u32 ((a 3).seq : Int), .int .u8 ((a 3).code : Int), .string (a 3).text])] w wx)
      case first =>
        clear HEA HEB HIN HTK
        go_region_held_law (fun W : World => (W.cell? ⟨w.heap.size, 0, none⟩ = some (.int .u32 ((a 0).seq : Int)) ∧ W.cell? ⟨w.heap.size, 1, none⟩ = some (.int .u8 ((a 0).code : Int)) ∧ W.cell? ⟨w.heap.size, 2, none⟩ = some (.string (a 0).text) ∧ W.cell? ⟨w.heap.size, 3, none⟩ = some (.int .u32 ((a 1).seq : Int)) ∧ W.cell? ⟨w.heap.size, 4, none⟩ = some (.int .u8 ((a 1).code : Int)) ∧ W.cell? ⟨w.heap.size, 5, none⟩ = some (.string (a 1).text) ∧ W.cell? ⟨w.heap.size, 6, none⟩ = some (.int .u32 ((a 2).seq : Int)) ∧ W.cell? ⟨w.heap.size, 7, none⟩ = some (.int .u8 ((a 2).code : Int)) ∧ W.cell? ⟨w.heap.size, 8, none⟩ = some (.string (a 2).text) ∧ W.cell? ⟨w.heap.size, 9, none⟩ = some (.int .u32 ((a 3).seq : Int)) ∧ W.cell? ⟨w.heap.size, 10, none⟩ = some (.int .u8 ((a 3).code : Int)) ∧ W.cell? ⟨w.heap.size, 11, none⟩ = some (.string (a 3).text)) ∧ (W.cell? ⟨w.heap.size + 1, 0, none⟩ = some (.int .u32 ((b 0).seq : Int)) ∧ W.cell? ⟨w.heap.size + 1, 1, none⟩ = some (.int .u8 ((b 0).code : Int)) ∧ W.cell? ⟨w.heap.size + 1, 2, none⟩ = some (.string (b 0).text) ∧ W.cell? ⟨w.heap.size + 1, 3, none⟩ = some (.int .u32 ((b 1).seq : Int)) ∧ W.cell? ⟨w.heap.size + 1, 4, none⟩ = some (.int .u8 ((b 1).code : Int)) ∧ W.cell? ⟨w.heap.size + 1, 5, none⟩ = some (.string (b 1).text) ∧ W.cell? ⟨w.heap.size + 1, 6, none⟩ = some (.int .u32 ((b 2).seq : Int)) ∧ W.cell? ⟨w.heap.size + 1, 7, none⟩ = some (.int .u8 ((b 2).code : Int)) ∧ W.cell? ⟨w.heap.size + 1, 8, none⟩ = some (.string (b 2).text) ∧ W.cell? ⟨w.heap.size + 1, 9, none⟩ = some (.int .u32 ((b 3).seq : Int)) ∧ W.cell? ⟨w.heap.size + 1, 10, none⟩ = some (.int .u8 ((b 3).code : Int)) ∧ W.cell? ⟨w.heap.size + 1, 11, none⟩ = some (.string (b 3).text)))
          (first | exact ⟨kg.i2.c12, kg.i1.c12⟩ | exact ⟨kg7.i2.c12, kg7.i1.c12⟩ | exact ⟨kg8.i2.c12, kg8.i1.c12⟩)
          (first
            | (go_simp; go_at_call 22; (with_reducible refine (HP.out _).mono ?_); rintro e w7 ⟨A7, c7, rfl, r7, B7⟩; have kg7 := kg.below B7)
            | (go_simp; go_at_call 22; (with_reducible refine (HQ.out _).mono ?_); rintro e w8 ⟨A8, c8, rfl, r8, B8⟩; have kg8 := kg7.below B8)
            | (refine upon_conv Try.underlying40 Try.underlying5 Try.underlying9 r7 ?_)
            | (refine upon_conv Try.underlying40 Try.underlying5 Try.underlying9 (r7.below B8) ?_)
            | (refine upon_conv Try.underlying40 Try.underlying5 Try.underlying9 r8 ?_))
        all_goals
          go_wp2_with fail
          go_meet
          exact ⟨rfl, rfl, kg8⟩
      case rest =>
        clear HP HQ kg
        obtain ⟨rfl, rfl, kg⟩ := hcut
        clear hla hlb
        have s2 := kg.i1.lt
        simp only at s2
        have hnd : ∀ (W : World) (g : Nat), RdAt W g ⟨0, []⟩ → Calls Try.prog 29 #[.pointer (some ⟨g, 0, none⟩)] W fun e w' => e = .returned (.int .i64 0) ∧ RdGo W g ⟨0, []⟩ w' := fun W g h => end_any g ⟨0, []⟩ W h
        have HND := Lib.hid hnd
        clear hnd
        go_wp2_with fail
        refine (of_any xa _).mono ?_; rintro e w1 ⟨rfl, rfl⟩
        have kg1 := kg.new 98 (rdC ⟨0, xa⟩)
        have hgw : w.heap.size ≤ wc.heap.size := by omega
        generalize hwc : wc.heap.size = gr at *
        have HWC := Lib.hid hwc
        clear hwc kg
        go_upto_region 12 with fail
        generalize wc.alloc (.cells (rdC ⟨0, xa⟩) 98) = wd at *
        go_cut [108] (fun s108 wx => s108 = .bool false ∧ Kg [(w.heap.size + 1, 31, #[.int .u32 ((b 0).seq : Int), .int .u8 ((b 0).code : Int), .string (b 0).text, .int .u32 ((b 1).seq : Int), .int .u8 ((b 1).code : Int), .string (b 1).text, .int .u32 ((b 2).seq : Int), .int .u8 ((b 2).code : Int), .string (b 2).text, .int .u32 ((b 3).seq : Int), .int .u8 ((b 3).code : Int), .string (b 3).text]), (w.heap.size, 31, #[.int .u32 ((a 0).seq : Int), .int .u8 ((a 0).code : Int), .string (a 0).text, .int .u32 ((a 1).seq : Int), .int .u8 ((a 1).code : Int), .string (a 1).text, .int .u32 ((a 2).seq : Int), .int .u8 ((a 2).code : Int), .string (a 2).text, .int .u32 ((a 3).seq : Int), .int .u8 ((a 3).code : Int), .string (a 3).text])] w wx)
        case first =>
          have kg1 := kg1.drew
          have heqa := HEA.out
          have heqb := HEB.out
          cases ex
          case true =>
            have hxx := HIN.out.2 rfl
            subst hxx
            go_region_held3 (fun W : World => (W.cell? ⟨w.heap.size, 0, none⟩ = some (.int .u32 ((a 0).seq : Int)) ∧ W.cell? ⟨w.heap.size, 1, none⟩ = some (.int .u8 ((a 0).code : Int)) ∧ W.cell? ⟨w.heap.size, 2, none⟩ = some (.string (a 0).text) ∧ W.cell? ⟨w.heap.size, 3, none⟩ = some (.int .u32 ((a 1).seq : Int)) ∧ W.cell? ⟨w.heap.size, 4, none⟩ = some (.int .u8 ((a 1).code : Int)) ∧ W.cell? ⟨w.heap.size, 5, none⟩ = some (.string (a 1).text) ∧ W.cell? ⟨w.heap.size, 6, none⟩ = some (.int .u32 ((a 2).seq : Int)) ∧ W.cell? ⟨w.heap.size, 7, none⟩ = some (.int .u8 ((a 2).code : Int)) ∧ W.cell? ⟨w.heap.size, 8, none⟩ = some (.string (a 2).text) ∧ W.cell? ⟨w.heap.size, 9, none⟩ = some (.int .u32 ((a 3).seq : Int)) ∧ W.cell? ⟨w.heap.size, 10, none⟩ = some (.int .u8 ((a 3).code : Int)) ∧ W.cell? ⟨w.heap.size, 11, none⟩ = some (.string (a 3).text)) ∧ (W.cell? ⟨w.heap.size + 1, 0, none⟩ = some (.int .u32 ((b 0).seq : Int)) ∧ W.cell? ⟨w.heap.size + 1, 1, none⟩ = some (.int .u8 ((b 0).code : Int)) ∧ W.cell? ⟨w.heap.size + 1, 2, none⟩ = some (.string (b 0).text) ∧ W.cell? ⟨w.heap.size + 1, 3, none⟩ = some (.int .u32 ((b 1).seq : Int)) ∧ W.cell? ⟨w.heap.size + 1, 4, none⟩ = some (.int .u8 ((b 1).code : Int)) ∧ W.cell? ⟨w.heap.size + 1, 5, none⟩ = some (.string (b 1).text) ∧ W.cell? ⟨w.heap.size + 1, 6, none⟩ = some (.int .u32 ((b 2).seq : Int)) ∧ W.cell? ⟨w.heap.size + 1, 7, none⟩ = some (.int .u8 ((b 2).code : Int)) ∧ W.cell? ⟨w.heap.size + 1, 8, none⟩ = some (.string (b 2).text) ∧ W.cell? ⟨w.heap.size + 1, 9, none⟩ = some (.int .u32 ((b 3).seq : Int)) ∧ W.cell? ⟨w.heap.size + 1, 10, none⟩ = some (.int .u8 ((b 3).code : Int)) ∧ W.cell? ⟨w.heap.size + 1, 11, none⟩ = some (.string (b 3).text)))
              (first | exact ⟨kg1.i3.c12, kg1.i2.c12⟩ | exact ⟨kg2.i3.c12, kg2.i2.c12⟩ | exact ⟨kg3.i3.c12, kg3.i2.c12⟩)
              (first
                | (go_at_call 25; refine (HTK.out _ _ kg1.i1).mono ?_; rintro e w2 ⟨rfl, g2⟩; have kg2 := kg1.rd g2 (by simp; omega) hgw)
                | (go_at_call 29; refine (HND.out _ _ kg2.i1).mono ?_; rintro e w3 ⟨rfl, g3⟩; have kg3 := kg2.rd g3 (by simp; omega) hgw))
            all_goals
              go_wp2_with fail
              go_meet
              exact ⟨rfl, kg3.tail⟩
          case false =>
            have hxx : ¬ xa = xb := fun h => by have := HIN.out.1 h; simp at this
            have hx1 : ((⟨xa.toArray⟩ : ByteArray).toList == (⟨xb.toArray⟩ : ByteArray).toList) = false := beq_eq_false_iff_ne.2 (fun h => hxx (by simpa using congrArg (fun b : ByteArray => b.data.toList) (toList_inj _ _ h)))
            have hx2 : ((⟨xa.toArray⟩ : ByteArray) == ⟨xb.toArray⟩) = false := by rw [beq_toListBytes]; exact hx1
            have hx3 : (xa == xb) = false := beq_eq_false_iff_ne.2 hxx
            have HXX := Lib.hid hxx
            clear hxx
            go_region_held3 (fun W : World => (W.cell? ⟨w.heap.size, 0, none⟩ = some (.int .u32 ((a 0).seq : Int)) ∧ W.cell? ⟨w.heap.size, 1, none⟩ = some (.int .u8 ((a 0).code : Int)) ∧ W.cell? ⟨w.heap.size, 2, none⟩ = some (.string (a 0).text) ∧ W.cell? ⟨w.heap.size, 3, none⟩ = some (.int .u32 ((a 1).seq : Int)) ∧ W.cell? ⟨w.heap.size, 4, none⟩ = some (.int .u8 ((a 1).code : Int)) ∧ W.cell? ⟨w.heap.size, 5, none⟩ = some (.string (a 1).text) ∧ W.cell? ⟨w.heap.size, 6, none⟩ = some (.int .u32 ((a 2).seq : Int)) ∧ W.cell? ⟨w.heap.size, 7, none⟩ = some (.int .u8 ((a 2).code : Int)) ∧ W.cell? ⟨w.heap.size, 8, none⟩ = some (.string (a 2).text) ∧ W.cell? ⟨w.heap.size, 9, none⟩ = some (.int .u32 ((a 3).seq : Int)) ∧ W.cell? ⟨w.heap.size, 10, none⟩ = some (.int .u8 ((a 3).code : Int)) ∧ W.cell? ⟨w.heap.size, 11, none⟩ = some (.string (a 3).text)) ∧ (W.cell? ⟨w.heap.size + 1, 0, none⟩ = some (.int .u32 ((b 0).seq : Int)) ∧ W.cell? ⟨w.heap.size + 1, 1, none⟩ = some (.int .u8 ((b 0).code : Int)) ∧ W.cell? ⟨w.heap.size + 1, 2, none⟩ = some (.string (b 0).text) ∧ W.cell? ⟨w.heap.size + 1, 3, none⟩ = some (.int .u32 ((b 1).seq : Int)) ∧ W.cell? ⟨w.heap.size + 1, 4, none⟩ = some (.int .u8 ((b 1).code : Int)) ∧ W.cell? ⟨w.heap.size + 1, 5, none⟩ = some (.string (b 1).text) ∧ W.cell? ⟨w.heap.size + 1, 6, none⟩ = some (.int .u32 ((b 2).seq : Int)) ∧ W.cell? ⟨w.heap.size + 1, 7, none⟩ = some (.int .u8 ((b 2).code : Int)) ∧ W.cell? ⟨w.heap.size + 1, 8, none⟩ = some (.string (b 2).text) ∧ W.cell? ⟨w.heap.size + 1, 9, none⟩ = some (.int .u32 ((b 3).seq : Int)) ∧ W.cell? ⟨w.heap.size + 1, 10, none⟩ = some (.int .u8 ((b 3).code : Int)) ∧ W.cell? ⟨w.heap.size + 1, 11, none⟩ = some (.string (b 3).text)))
              (first | exact ⟨kg1.i3.c12, kg1.i2.c12⟩ | exact ⟨kg2.i3.c12, kg2.i2.c12⟩ | exact ⟨kg3.i3.c12, kg3.i2.c12⟩)
              (first
                | (go_at_call 25; refine (HTK.out _ _ kg1.i1).mono ?_; rintro e w2 ⟨rfl, g2⟩; have kg2 := kg1.rd g2 (by simp; omega) hgw)
                | (go_at_call 29; refine (HND.out _ _ kg2.i1).mono ?_; rintro e w3 ⟨rfl, g3⟩; have kg3 := kg2.rd g3 (by simp; omega) hgw))
            all_goals
              go_wp2_with fail
              go_meet
              exact ⟨rfl, kg3.tail⟩
        case rest =>
          clear kg1 HTK HND
          obtain ⟨rfl, kg⟩ := hcut
          obtain ⟨t, ht⟩ : ∃ t, takeT ⟨0, s⟩ = t := ⟨_, rfl⟩
          obtain ⟨q, hq⟩ : ∃ q, rdK ⟨0, s⟩ 4 = q := ⟨_, rfl⟩
          have hT2 : ∀ (W : World) (g : Nat), RdAt W g ⟨0, s⟩ → Calls Try.prog 25 #[.pointer (some ⟨g, 0, none⟩)] W fun e w' => e = .returned (tabV t) ∧ RdGo W g q w' := fun W g h => by
            rw [← ht, ← hq]
            exact sessTake_any g ⟨0, s⟩ (by show s.length ≤ _; omega) W h
          have hok := fun c (_ : c < 4) => takeT_ok ⟨0, s⟩ c
          have hwh := take_whole s
          rw [ht] at hok hwh
          rw [hq] at hwh
          have hP2 : ∀ W, Calls Try.prog 22 #[tabV t, .slice none 0 0] W fun e w' => RetS W w' e (tabB t) := fun W => tabPut_any t hok [] (by simp) none 0 W Reads.none_
          unfold tabV tabC at hT2 hP2
          have HT2 := Lib.hid hT2
          have HP2 := Lib.hid hP2
          have HW := Lib.hid hwh
          clear hT2 hP2 hwh hok ht hq
          have s3 := kg.i1.lt
          simp only at s3
          go_wp2_with fail
          refine (of_any s _).mono ?_; rintro e w1 ⟨rfl, rfl⟩
          have kg1 := kg.new 98 (rdC ⟨0, s⟩)
          go_wp2_with fail
          refine (HT2.out _ _ kg1.i1).mono ?_; rintro e w2 ⟨rfl, g2⟩
          have kg2 := kg1.rd g2 (by simp; omega) (by omega)
          have s4 := kg2.i1.lt
          simp only at s4
          have kg3 := kg2.new 31 #[.int .u32 ((t 0).seq : Int), .int .u8 ((t 0).code : Int), .string (t 0).text, .int .u32 ((t 1).seq : Int), .int .u8 ((t 1).code : Int), .string (t 1).text, .int .u32 ((t 2).seq : Int), .int .u8 ((t 2).code : Int), .string (t 2).text, .int .u32 ((t 3).seq : Int), .int .u8 ((t 3).code : Int), .string (t 3).text]
          clear kg kg1 kg2 g2
          go_upto_region 16 with fail
          generalize w2.alloc (.cells #[.int .u32 ((t 0).seq : Int), .int .u8 ((t 0).code : Int), .string (t 0).text, .int .u32 ((t 1).seq : Int), .int .u8 ((t 1).code : Int), .string (t 1).text, .int .u32 ((t 2).seq : Int), .int .u8 ((t 2).code : Int), .string (t 2).text, .int .u32 ((t 3).seq : Int), .int .u8 ((t 3).code : Int), .string (t 3).text] 31) = w3 at *
          have hE := fun W h => end_any wc.heap.size q W h
          have HE := Lib.hid hE
          clear hE
          unfold EndRet at HE
          generalize q.end_ = qe at *
          go_wp2_with fail
          refine (HE.out _ kg3.i2).mono ?_; rintro e w4 ⟨rfl, g4⟩
          have kg4 := (kg3.swap.rd g4 (by simp; omega) (by omega)).swap
          obtain ⟨c0, c1, c2, c3, c4, c5, c6, c7, c8, c9, c10, c11⟩ := kg4.i1.c12
          simp only at c0 c1 c2 c3 c4 c5 c6 c7 c8 c9 c10 c11
          by_cases h0 : qe.err = 0
          · have hb : ((qe.err : Int) != 0) = false := by rw [h0]; rfl
            have hp := HP2.out
            rw [HW.out h0] at hp
            have HP3 := Lib.hid hp
            clear hp h0 HP2
            go_wp2_with fail
            refine (HP3.out _).mono ?_; rintro e w5 ⟨A5, d5, rfl, r5, B5⟩
            have hcv := conv_str Try.underlying40 Try.underlying5 Try.underlying9 d5 r5
            have kg5 := kg4.below B5
            go_wp2_with fail
            refine (wakes12_any _).mono ?_; rintro e w6 ⟨rfl, B6⟩
            go_wp2_with fail
            go_ret
            exact ⟨rfl, (kg5.below B6).bw⟩
          · have hb : ((qe.err : Int) != 0) = true := by rw [bne_iff_ne]; omega
            go_wp2_with fail
            refine (wakes12_any _).mono ?_; rintro e w6 ⟨rfl, B6⟩
            go_wp2_with fail
            go_ret
            exact ⟨rfl, (kg4.below B6).bw⟩
end Go.Proofs.Ytgbnaifjdfoahaa.Sess
