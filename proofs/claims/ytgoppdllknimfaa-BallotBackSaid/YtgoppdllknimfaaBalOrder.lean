/- The walk of BallotOrder: ballots stand in one order, and the greatest one is one of them. Conditions: the list can be read. -/
import Derived.Test.YtgoppdllknimfaaBalLaw
import Derived.Deep.RegionHeldLaw
import Derived.Deep.RegionWith
import Derived.Deep.QuietTactic
import Derived.BigQuiet
import Derived.Deep.DeepCutAuto
namespace Go.Proofs.Ytgoppdllknimfaa.Bal
open Go.RowKit

/-! ### The plain law -/
/-- Two ballots: below, above, or alike, field by field. -/
theorem tri (an ar bn br : Nat) : (an < bn) ∨ (an = bn ∧ ar < br) ∨ (an = bn ∧ ar = br) ∨ (an = bn ∧ br < ar) ∨ (bn < an) := by omega
def eqB (a b : B) : Bool := decide (a.n = b.n) && decide (a.r = b.r)
theorem eqB_iff (a b : B) : eqB a b = true ↔ a = b := by
  obtain ⟨an, ar⟩ := a
  obtain ⟨bn, br⟩ := b
  simp [eqB]
/-- Whether one of a list's first ones is that one, or there are none. -/
def thereN (l : List B) (m : B) (k : Nat) : Bool := (decide (l.length = 0)) || (l.take k).any fun b => eqB b m
theorem thereN_succ (l : List B) (m : B) (k : Nat) (b : B) (h : l[k]? = some b) : thereN l m (k + 1) = (thereN l m k || eqB b m) := by
  unfold thereN
  rw [take_snoc l k b h, List.any_append]
  simp [Bool.or_assoc]
theorem thereN_all (l : List B) : thereN l (topN l) l.length = true := by
  unfold thereN
  rw [List.take_length]
  by_cases h : l = []
  · subst h; rfl
  · have := topN_mem l h
    simp only [Bool.or_eq_true, List.any_eq_true]
    exact .inr ⟨_, this, (eqB_iff _ _).2 rfl⟩

theorem Kb.drewN {L : List (Nat × Array Value)} {w W : World} (k : Kb L w W) (n : Nat) : Kb L w (W.drewN n) := ⟨below_drewN k.bw n, fun p hp => (k.at_ p hp).drewN n⟩
/-! ### The walk -/
def OrdAt (l : List B) (m : B) (g : Nat) (w : World) (t i : Value) (wr : World) : Prop :=
  ∃ k : Nat, k ≤ l.length ∧ i = .int .i64 (k : Int) ∧ t = .bool (thereN l m k) ∧ Kb [(g, bC m)] w wr
set_option maxRecDepth 100000 in
set_option maxHeartbeats 8000000 in
theorem order_all (l : List B) (hl : l.length ≤ 9223372036854775807) (a b c : B) (A : Option Addr) (cp : Nat) (w : World) (h : Balls w A l) :
    Calls Try.prog 4 #[bV a, bV b, bV c, .slice A l.length cp] w fun e w' => e = .returned (.bool true) ∧ Below w.heap.size w w' := by
  obtain ⟨an, ar⟩ := a
  obtain ⟨bn, br⟩ := b
  obtain ⟨cn, cr⟩ := c
  have k := (((Kb.refl w).new #[.int .u64 (an : Int), .int .u8 (ar : Int)]).new #[.int .u64 (bn : Int), .int .u8 (br : Int)]).new #[.int .u64 (cn : Int), .int .u8 (cr : Int)]
  have e1 : (w.alloc (.cells #[.int .u64 (an : Int), .int .u8 (ar : Int)] 25)).heap.size = w.heap.size + 1 := by simp
  have e2 : ((w.alloc (.cells #[.int .u64 (an : Int), .int .u8 (ar : Int)] 25)).alloc (.cells #[.int .u64 (bn : Int), .int .u8 (br : Int)] 25)).heap.size = w.heap.size + 1 + 1 := by simp
  rw [e1, e2] at k
  clear e1 e2
  by_cases hb2 : 100 < l.length
  · go_enter Try.func4, Try.ntmps4
    unfold bV bC at *
    go_wp2_with fail
    refine (wakes7_any _).mono ?_; rintro e w' ⟨rfl, hb⟩
    have k := k.below hb
    go_wp2
    go_ret
    exact ⟨rfl, k.bw⟩
  have L1 := below_any ⟨an, ar⟩ ⟨bn, br⟩
  have L2 := below_any ⟨bn, br⟩ ⟨an, ar⟩
  have L3 := below_any ⟨bn, br⟩ ⟨cn, cr⟩
  have L4 := below_any ⟨an, ar⟩ ⟨cn, cr⟩
  have P1 := top_any l (by omega) A cp
  have hA := thereN_all l
  have hM := topN_max l
  have hZ : l.length = 0 → (topN l).n = 0 ∧ (topN l).r = 0 := by intro h0; rw [List.eq_nil_of_length_eq_zero h0]; exact ⟨rfl, rfl⟩
  generalize topN l = t at P1 hA hM hZ
  obtain ⟨tn, tr⟩ := t
  unfold bV bC at L1 L2 L3 L4 P1
  have HA := Lib.hid hA
  have HM := Lib.hid hM
  have HZ := Lib.hid hZ
  have HB := Lib.hid h
  have K1 := Lib.hid L1
  have K2 := Lib.hid L2
  have K3 := Lib.hid L3
  have K4 := Lib.hid L4
  have K5 := Lib.hid P1
  clear hA hM hZ h L1 L2 L3 L4 P1
  go_enter Try.func4, Try.ntmps4
  unfold bV bC at *
  go_upto_region 3 with fail
  go_cut [9, 10] (fun s9 s10 wx => s9 = .bool (ltB ⟨an, ar⟩ ⟨bn, br⟩) ∧ s10 = .bool (ltB ⟨bn, br⟩ ⟨an, ar⟩) ∧ Kb [(w.heap.size + 1 + 1, #[.int .u64 (cn : Int), .int .u8 (cr : Int)]), (w.heap.size + 1, #[.int .u64 (bn : Int), .int .u8 (br : Int)]), (w.heap.size, #[.int .u64 (an : Int), .int .u8 (ar : Int)])] w wx)
  case first =>
    have k := k.drew
    go_region_held_law (fun W : World => W.cell? ⟨w.heap.size, 0, none⟩ = some (.int .u64 (an : Int)) ∧ W.cell? ⟨w.heap.size, 1, none⟩ = some (.int .u8 (ar : Int)) ∧ W.cell? ⟨w.heap.size + 1, 0, none⟩ = some (.int .u64 (bn : Int)) ∧ W.cell? ⟨w.heap.size + 1, 1, none⟩ = some (.int .u8 (br : Int)))
      (exact ⟨k.i3.cell 0, k.i3.cell 1, k.i2.cell 0, k.i2.cell 1⟩) (first
        | (go_at_call 19; first
            | (refine (K1.out _).mono ?_; rintro e w7 ⟨rfl, B7⟩; have k := k.below (Al5.below B7); clear B7)
            | (refine (K2.out _).mono ?_; rintro e w7 ⟨rfl, B7⟩; have k := k.below (Al5.below B7); clear B7)))
    all_goals (go_wp2_with fail; go_meet; exact ⟨rfl, rfl, k⟩)
  case rest =>
    clear k
    obtain ⟨rfl, rfl, k⟩ := hcut
    clear K1 K2
    have HX : ∃ x, ltB ⟨an, ar⟩ ⟨bn, br⟩ = x := ⟨_, rfl⟩
    have HY : ∃ y, ltB ⟨bn, br⟩ ⟨an, ar⟩ = y := ⟨_, rfl⟩
    obtain ⟨x, hx⟩ := HX
    obtain ⟨y, hy⟩ := HY
    rw [hx, hy]
    have HX := Lib.hid hx
    have HY := Lib.hid hy
    clear hx hy
    go_upto_region 4 with fail
    go_cut [51] (fun s51 wx => s51 = .bool false ∧ Below w.heap.size w wx)
    case first =>
      have q0 := k.i3.cell 0
      have q1 := k.i3.cell 1
      have r0 := k.i2.cell 0
      have r1 := k.i2.cell 1
      have v0 := k.i1.cell 0
      have v1 := k.i1.cell 1
      simp at q0 q1 r0 r1 v0 v1
      rcases tri an ar bn br with h | ⟨h1, h⟩ | ⟨h1, h⟩ | ⟨h1, h⟩ | h
      · have hx : ltB ⟨an, ar⟩ ⟨bn, br⟩ = true := (ltB_iff _ _).2 (.inl h)
        have hy : ltB ⟨bn, br⟩ ⟨an, ar⟩ = false := not_lt_of_lt hx
        obtain rfl : x = _ := HX.out.symm.trans hx
        obtain rfl : y = _ := HY.out.symm.trans hy
        have E : ((an : Int) == (bn : Int)) = false := beq_eq_false_iff_ne.2 (by omega)
        cases h3 : ltB ⟨bn, br⟩ ⟨cn, cr⟩
        · clear hx hy h
          have H3 := Lib.hid h3
          clear h3
          go_wp2_with fail
          refine (K3.out _).mono ?_; rintro e w8 ⟨rfl, B8⟩; have k := k.below (Al5.below B8); rw [H3.out]
          clear B8
          go_wp2_with fail
          go_meet
          exact ⟨rfl, k.bw⟩
        · have h4 : ltB ⟨an, ar⟩ ⟨cn, cr⟩ = true := by (rw [ltB_iff] at *; simp only at *; omega)
          clear hx hy h
          have H3 := Lib.hid h3
          have H4 := Lib.hid h4
          clear h3 h4
          go_wp2_with fail
          refine (K3.out _).mono ?_; rintro e w8 ⟨rfl, B8⟩; have k := k.below (Al5.below B8); rw [H3.out]
          clear B8 q0 q1 v0 v1
          have q0 := k.i3.cell 0
          have q1 := k.i3.cell 1
          have v0 := k.i1.cell 0
          have v1 := k.i1.cell 1
          simp at q0 q1 v0 v1
          go_wp2_with fail
          refine (K4.out _).mono ?_; rintro e w9 ⟨rfl, B9⟩; have k := k.below (Al5.below B9); rw [H4.out]
          clear B9
          go_wp2_with fail
          go_meet
          exact ⟨rfl, k.bw⟩
      · subst h1
        have hx : ltB ⟨an, ar⟩ ⟨an, br⟩ = true := (ltB_iff _ _).2 (.inr ⟨rfl, h⟩)
        have hy : ltB ⟨an, br⟩ ⟨an, ar⟩ = false := not_lt_of_lt hx
        obtain rfl : x = _ := HX.out.symm.trans hx
        obtain rfl : y = _ := HY.out.symm.trans hy
        have E : ((ar : Int) == (br : Int)) = false := beq_eq_false_iff_ne.2 (by omega)
        cases h3 : ltB ⟨an, br⟩ ⟨cn, cr⟩
        · clear hx hy h
          have H3 := Lib.hid h3
          clear h3
          go_wp2_with fail
          refine (K3.out _).mono ?_; rintro e w8 ⟨rfl, B8⟩; have k := k.below (Al5.below B8); rw [H3.out]
          clear B8
          go_wp2_with fail
          go_meet
          exact ⟨rfl, k.bw⟩
        · have h4 : ltB ⟨an, ar⟩ ⟨cn, cr⟩ = true := by (rw [ltB_iff] at *; simp only at *; omega)
          clear hx hy h
          have H3 := Lib.hid h3
          have H4 := Lib.hid h4
          clear h3 h4
          go_wp2_with fail
          refine (K3.out _).mono ?_; rintro e w8 ⟨rfl, B8⟩; have k := k.below (Al5.below B8); rw [H3.out]
          clear B8 q0 q1 v0 v1
          have q0 := k.i3.cell 0
          have q1 := k.i3.cell 1
          have v0 := k.i1.cell 0
          have v1 := k.i1.cell 1
          simp at q0 q1 v0 v1
          go_wp2_with fail
          refine (K4.out _).mono ?_; rintro e w9 ⟨rfl, B9⟩; have k := k.below (Al5.below B9); rw [H4.out]
          clear B9
          go_wp2_with fail
          go_meet
          exact ⟨rfl, k.bw⟩
      · subst h1
        subst h
        have hx : ltB ⟨an, ar⟩ ⟨an, ar⟩ = false := (ltB_false _ _).2 (.inr ⟨rfl, Nat.le_refl _⟩)
        obtain rfl : x = _ := HX.out.symm.trans hx
        obtain rfl : y = _ := HY.out.symm.trans hx
        clear hx
        go_wp2_with fail
        go_meet
        exact ⟨rfl, k.bw⟩
      · subst h1
        have hy : ltB ⟨an, br⟩ ⟨an, ar⟩ = true := (ltB_iff _ _).2 (.inr ⟨rfl, h⟩)
        have hx : ltB ⟨an, ar⟩ ⟨an, br⟩ = false := not_lt_of_lt hy
        obtain rfl : x = _ := HX.out.symm.trans hx
        obtain rfl : y = _ := HY.out.symm.trans hy
        have E : ((ar : Int) == (br : Int)) = false := beq_eq_false_iff_ne.2 (by omega)
        clear hx hy h
        go_wp2_with fail
        go_meet
        exact ⟨rfl, k.bw⟩
      · have hy : ltB ⟨bn, br⟩ ⟨an, ar⟩ = true := (ltB_iff _ _).2 (.inl h)
        have hx : ltB ⟨an, ar⟩ ⟨bn, br⟩ = false := not_lt_of_lt hy
        obtain rfl : x = _ := HX.out.symm.trans hx
        obtain rfl : y = _ := HY.out.symm.trans hy
        have E : ((an : Int) == (bn : Int)) = false := beq_eq_false_iff_ne.2 (by omega)
        clear hx hy h
        go_wp2_with fail
        go_meet
        exact ⟨rfl, k.bw⟩
    case rest =>
      clear k
      obtain ⟨rfl, hbw⟩ := hcut
      clear K3 K4
      go_wp2_with fail
      refine (K5.out _ (HB.out.below hbw)).mono ?_; rintro e w8 ⟨rfl, B8⟩
      have k := (Kb.mk (L := []) hbw (by simp)).below B8
      have k := k.new (bC ⟨tn, tr⟩)
      unfold bC at k
      clear B8 hbw K5
      go_upto_region 7 with fail
      go_cut [12] (fun s12 wx => s12 = .bool (thereN l ⟨tn, tr⟩ 0) ∧ Kb [(w8.heap.size, #[.int .u64 (tn : Int), .int .u8 (tr : Int)])] w wx)
      case first =>
        have q0 := k.i1.cell 0
        have q1 := k.i1.cell 1
        simp at q0 q1
        by_cases hz : l.length = 0
        · have h1 : tn = 0 ∧ tr = 0 := HZ.out hz
          obtain ⟨rfl, rfl⟩ := h1
          have h2 : thereN l ⟨0, 0⟩ 0 = true := by unfold thereN; simp [hz]
          have H2 := Lib.hid h2
          have E : ((l.length : Int) == 0) = true := by simp [hz]
          clear h2 hz
          go_wp2_with fail
          go_meet
          exact ⟨by rw [H2.out], k⟩
        · have h2 : thereN l ⟨tn, tr⟩ 0 = false := by unfold thereN; simp [hz]
          have H2 := Lib.hid h2
          have E : ((l.length : Int) == 0) = false := beq_eq_false_iff_ne.2 (by omega)
          clear h2 hz
          go_wp2_with fail
          go_meet
          exact ⟨by rw [H2.out], k⟩
      case rest =>
        clear k
        obtain ⟨rfl, k⟩ := hcut
        clear HX HY HZ
        generalize w8.heap.size = g at *
        go_wp2_with fail
        go_loopw [12, 13] (fun t i wr => OrdAt l ⟨tn, tr⟩ g w t i wr) (fun _ i _ => l.length - (intOf i).toNat)
        case atStart => exact ⟨0, by omega, rfl, rfl, k⟩
        case round =>
          clear k
          obtain ⟨k, hk, rfl, rfl, kb⟩ := hrel
          by_cases hlt : k < l.length
          · have hb : l[k]? = some l[k] := List.getElem?_eq_getElem hlt
            have hmem := HM.out _ (List.getElem_mem hlt)
            generalize l[k] = x at hb hmem
            obtain ⟨xn, xr⟩ := x
            have hS := thereN_succ l ⟨tn, tr⟩ k _ hb
            obtain ⟨ad, rfl, hlb, c0, c1⟩ := (HB.out.below kb.bw) k _ hb
            rw [← add_next] at c1
            have t0 := kb.i1.cell 0
            have t1 := kb.i1.cell 1
            simp [bC] at t0 t1 c0 c1
            have HF := Lib.hid hmem
            have HS := Lib.hid hS
            clear hmem hb hS hlb
            cases hm : thereN l ⟨tn, tr⟩ k
            · rw [hm] at HS
              clear hm
              by_cases hn : xn = tn
              · subst hn
                by_cases hr : xr = tr
                · subst hr
                  go_wp2_with fail
                  go_quiet (fail)
                  all_goals
                    go_wp2_with fail
                    go_region_with (first | (go_at_call 19; refine (below_any ⟨xn, xr⟩ ⟨xn, xr⟩ _).mono ?_; rintro e w5 ⟨rfl, hal⟩; rw [HF.out]; have kb := (kb.drewN _).below hal.below; clear hal))
                    all_goals
                      go_wp2
                      exact ⟨⟨k + 1, by omega, by go_num, by rw [HS.out]; simp [eqB], kb⟩, by simp [intOf]; omega⟩
                · have E : ((xr : Int) == (tr : Int)) = false := beq_eq_false_iff_ne.2 (by omega)
                  have Hr := Lib.hid hr
                  clear hr
                  go_wp2_with fail
                  go_quiet (fail)
                  all_goals
                    go_wp2_with fail
                    go_region_with (first | (go_at_call 19; refine (below_any ⟨xn, tr⟩ ⟨xn, xr⟩ _).mono ?_; rintro e w5 ⟨rfl, hal⟩; rw [HF.out]; have kb := (kb.drewN _).below hal.below; clear hal))
                    all_goals
                      go_wp2
                      exact ⟨⟨k + 1, by omega, by go_num, by rw [HS.out]; simp [eqB, Hr.out], kb⟩, by simp [intOf]; omega⟩
              · have E : ((xn : Int) == (tn : Int)) = false := beq_eq_false_iff_ne.2 (by omega)
                have Hn := Lib.hid hn
                clear hn
                go_wp2_with fail
                go_quiet (fail)
                all_goals
                  go_wp2_with fail
                  go_region_with (first | (go_at_call 19; refine (below_any ⟨tn, tr⟩ ⟨xn, xr⟩ _).mono ?_; rintro e w5 ⟨rfl, hal⟩; rw [HF.out]; have kb := (kb.drewN _).below hal.below; clear hal))
                  all_goals
                    go_wp2
                    exact ⟨⟨k + 1, by omega, by go_num, by rw [HS.out]; simp [eqB, Hn.out], kb⟩, by simp [intOf]; omega⟩
            · rw [hm] at HS
              clear hm
              go_wp2_with fail
              go_quiet (fail)
              all_goals
                go_wp2_with fail
                go_region_with (first | (go_at_call 19; refine (below_any ⟨tn, tr⟩ ⟨xn, xr⟩ _).mono ?_; rintro e w5 ⟨rfl, hal⟩; rw [HF.out]; have kb := (kb.drewN _).below hal.below; clear hal))
                all_goals
                  go_wp2
                  exact ⟨⟨k + 1, by omega, by go_num, by rw [HS.out]; simp, kb⟩, by simp [intOf]; omega⟩
          · obtain rfl : k = l.length := by omega
            rw [HA.out]
            go_wp2_with fail
            refine (wakes7_any _).mono ?_; rintro e w9 ⟨rfl, B9⟩
            have kb := kb.below B9
            go_wp2
            go_ret
            exact ⟨rfl, kb.bw⟩
end Go.Proofs.Ytgoppdllknimfaa.Bal
