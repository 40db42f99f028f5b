/- The law ElectFree, walked. Conditions: the lists can be read. -/
import Derived.Test.YtbamfnlgapchkaaElWk
import Derived.Test.YtbamfnlgapchkaaElOpen
namespace Go.Proofs.Ytbamfnlgapchkaa.Ele
open Go Go.RowKit Bal Mem DrawInv

theorem row1_at {α : Type} {w : World} {A : Option Addr} {cells : α → List Value} {l : List α} (h : Rows w A 1 cells l) {k : Nat} {x : α} {v : Value} (hx : l[k]? = some x) (hv : cells x = [v]) : ∃ ad, A = some ad ∧ ∀ W, Below w.heap.size w W → W.cell? (ad.add k) = some v := by
  obtain ⟨ad, e, hb, hc⟩ := h k x hx
  refine ⟨ad, e, fun W hW => ?_⟩
  have := hc 0 v (by rw [hv]; rfl)
  rw [Nat.mul_one, Nat.add_zero] at this
  exact (hW.cell (by rw [block_of_add]; exact hb)).trans this
theorem row4_at {w : World} {A : Option Addr} {V : List Vt} (h : Rows w A 4 vtL V) {k : Nat} {x : Vt} (hx : V[k]? = some x) : ∃ ad, A = some ad ∧ ∀ W, Below w.heap.size w W → W.cell? (ad.add (k * 4)) = some (.int .u64 (x.slot : Int)) := by
  obtain ⟨ad, e, hb, a0, _⟩ := h.at_ hx
  exact ⟨ad, e, fun W hW => (hW.cell (by rw [block_of_add]; exact hb)).trans (a0 _ rfl)⟩
/-- What holds between two rounds. -/
structure Fr (i : Nat) (q : Ro) : Prop where
  who : ∀ j, i ≤ j → j < 7 → hasB q.who j = false
  top : ∀ s, (q.F s).isSome = true → s ≤ q.last
  l64 : q.last < 18446744073709551616
theorem best_some (V : List Vt) (s : Nat) : ∀ a : Option Vt, (V.foldl (fun a v => bestF a v s) a).isSome = true ↔ (a.isSome = true ∨ ∃ v ∈ V, v.slot = s) := by
  induction V with
  | nil => intro a; simp
  | cons v V ih =>
    intro a
    rw [List.foldl_cons, ih]
    unfold bestF
    by_cases h : v.slot = s
    · rw [if_pos h]
      have : ((match a with | none => some v | some o => if ltB o.b v.b then some v else some o) : Option Vt).isSome = true := by
        cases a with
        | none => rfl
        | some o => simp only; split <;> rfl
      exact ⟨fun _ => .inr ⟨v, by simp, h⟩, fun _ => .inl this⟩
    · rw [if_neg h]
      constructor
      · rintro (h1 | ⟨x, hx, e⟩)
        · exact .inl h1
        · exact .inr ⟨x, by simp [hx], e⟩
      · rintro (h1 | ⟨x, hx, e⟩)
        · exact .inl h1
        · rcases List.mem_cons.1 hx with rfl | hx
          · exact absurd e h
          · exact .inr ⟨x, hx, e⟩
theorem max_le (V : List Vt) : ∀ m : Nat, m ≤ V.foldl (fun m v => max m v.slot) m ∧ ∀ v ∈ V, v.slot ≤ V.foldl (fun m v => max m v.slot) m := by
  induction V with
  | nil => intro m; simp
  | cons v V ih =>
    intro m
    rw [List.foldl_cons]
    obtain ⟨h1, h2⟩ := ih (max m v.slot)
    refine ⟨by omega, fun x hx => ?_⟩
    rcases List.mem_cons.1 hx with rfl | hx
    · omega
    · exact h2 x hx
theorem max_lt (V : List Vt) (hV : ∀ v ∈ V, v.slot < 18446744073709551616) : ∀ m : Nat, m < 18446744073709551616 → V.foldl (fun m v => max m v.slot) m < 18446744073709551616 := by
  induction V with
  | nil => intro m hm; exact hm
  | cons v V ih =>
    intro m hm
    rw [List.foldl_cons]
    have := hV v (by simp)
    exact ih (fun x hx => hV x (by simp [hx])) _ (by omega)
theorem has_more (s i j : Nat) (hj : j < 7) (hne : i ≠ j) : hasB (withN s (ofN [i])) j = hasB s j := by
  rw [has_bit' _ _ hj, has_bit' _ _ hj, test_with _ _ _ hj, mem_of _ _ hj]
  simp [Ne.symm hne]
theorem has_zero (j : Nat) (hj : j < 7) : hasB 0 j = false := by
  rw [has_bit' _ _ hj, Nat.zero_testBit]
theorem fr_add {i : Nat} {q : Ro} (h : Fr i q) (hi : i < 7) (base : Nat) (V : List Vt) (hV : ∀ v ∈ V, v.slot < 18446744073709551616) : addE q i = 0 ∧ Fr (i + 1) (q.add i base V) ∧ (q.add i base V).last = V.foldl (fun m v => max m v.slot) q.last ∧ (q.add i base V).floor = max q.floor base ∧ ∀ v ∈ V, boundB (q.add i base V) v.slot = true := by
  have he : addE q i = 0 := by unfold addE; rw [if_neg (by omega), h.who i (Nat.le_refl _) hi]; rfl
  have hq : q.add i base V = V.foldl Ro.grow (q.tell i base) := by unfold Ro.add; rw [he]; rfl
  obtain ⟨_, _, s3, s4, _⟩ := grow_same V (q.tell i base)
  have hl := grow_last V (q.tell i base)
  have hF := grow_F V (q.tell i base)
  refine ⟨he, ⟨fun j hij hj => ?_, fun s hs => ?_, ?_⟩, ?_, ?_, fun v hv => ?_⟩
  · rw [hq, s3]
    show hasB (withN q.who (ofN [i])) j = false
    rw [has_more _ _ _ hj (by omega)]
    exact h.who j (by omega) hj
  · rw [hq, hF] at hs
    rw [hq, hl]
    rcases (best_some V s _).1 hs with h1 | ⟨v, hv, rfl⟩
    · exact Nat.le_trans (h.top s h1) (max_le V q.last).1
    · exact (max_le V _).2 v hv
  · rw [hq, hl]; exact max_lt V hV _ h.l64
  · rw [hq, hl]; rfl
  · rw [hq, s4]
    show (if q.floor < base then base else q.floor) = _
    split <;> omega
  · unfold boundB
    rw [hq, hF, (best_some V v.slot _).2 (.inr ⟨v, hv, rfl⟩)]
    rfl
theorem fr_no {i : Nat} {q : Ro} (h : Fr i q) (hi : ¬ i < 7) (base : Nat) (V : List Vt) : addE q i = 2 ∧ q.add i base V = q ∧ Fr (i + 1) q := by
  have he : addE q i = 2 := if_pos (by omega)
  exact ⟨he, by unfold Ro.add; rw [he]; rfl, ⟨fun j hij hj => by omega, h.top, h.l64⟩⟩
theorem fr_above {i : Nat} {q : Ro} (h : Fr i q) : boundB q (q.last + 1) = false := by
  unfold boundB
  rw [decide_eq_false (by omega), Bool.or_false]
  cases hs : (q.F (q.last + 1)).isSome
  · rfl
  · have := h.top _ hs; omega
theorem fr_below {q : Ro} (h0 : 0 < q.last) : boundB q (q.last - 1) = true := by
  unfold boundB
  rw [decide_eq_true (by omega), Bool.or_true]
set_option linter.unusedVariables false in
set_option maxRecDepth 100000 in
set_option maxHeartbeats 2000000 in
theorem efree_any (l : List VL) (n : Nat) (hn : l.length = n) (hn63 : n ≤ 9223372036854775807) (A : Option Addr) (c : Nat) (bs : List Nat) (m : Nat) (hm : bs.length = m) (hm63 : m ≤ 9223372036854775807) (A2 : Option Addr) (c2 : Nat) (w : World) (hr : Rows w A 1 vlL l) (hf : ∀ x ∈ l, x.Fits w) (hr2 : Rows w A2 1 u64L bs) (hb64 : ∀ x ∈ bs, x < 18446744073709551616) :
    Calls Try.prog 12 #[.slice A n c, .slice A2 m c2] w fun e w' => e = .returned (.bool true) ∧ Below w.heap.size w w' := by
  by_cases h1 : 20 < n
  · have h1i : (20 : Int) < (n : Int) := by omega
    clear h1 hr hn hf hr2 hm
    go_enter Try.func12, Try.ntmps12
    go_wp2_with fail
    refine (wakes_any w).mono ?_; rintro e w1 ⟨rfl, bw⟩
    go_wp2_with fail
    go_ret
    exact ⟨rfl, bw⟩
  have h1i : ¬ (20 : Int) < (n : Int) := by omega
  have HR := Lib.hid (And.intro hr (And.intro hf (And.intro hr2 hb64)))
  have HN := Lib.hid (And.intro hn (And.intro hm (by omega : n ≤ 20)))
  have HOF := Lib.hid (eof_any 5 5 w)
  have HNE := Lib.hid (fun W => enew_any ⟨5, 5⟩ (by decide) W)
  unfold bV bC at HOF HNE
  dsimp only at HOF HNE
  clear h1 hr hn hf hr2 hm hn63 hb64
  go_enter Try.func12, Try.ntmps12
  go_wp2_with fail
  refine HOF.out.mono ?_; rintro e w1 ⟨rfl, bw⟩
  have HS1 := bw.size
  go_wp2_with fail
  refine (HNE.out w1).mono ?_; rintro e w2 hnew
  clear HOF HNE
  obtain ⟨g, mg, rfl, r, B2⟩ := hnew
  have bw := bw.trans (B2.mono bw.size)
  have r := r.mono HS1
  have HF0 : Fr 0 (Ro.new 5 5) := ⟨fun j _ hj => has_zero j hj, (fun s hs => by cases hs), (by show 0 < 18446744073709551616; omega)⟩
  clear B2 HS1
  go_wp2_with fail
  clear h1i
  go_loopg [7, 8] n (fun gk v7 v8 wr => ∃ (i : Nat) (q : Ro), i + gk = n ∧ v8 = .int .i64 (i : Int) ∧ v7 = .int .u64 (q.last : Int) ∧ RoS w.heap.size g mg q wr ∧ Hid (Fr i q) ∧ Below w.heap.size w wr)
  case atStart => exact ⟨0, _, by omega, rfl, rfl, r, HF0, bw⟩
  case round =>
    clear r bw HF0
    obtain ⟨i, q, hi, rfl, rfl, r, HF, bw⟩ := hrel
    obtain ⟨wo, rfl⟩ : ∃ wo : World, wo = wr := ⟨_, rfl⟩
    by_cases h4 : i < n
    · have hk4 : (i : Int) < (n : Int) := by omega
      obtain ⟨x, hx⟩ : ∃ x, l[i]? = some x := ⟨_, List.getElem?_eq_getElem (by rw [HN.out.1]; exact h4)⟩
      obtain ⟨ad, rfl, hc⟩ := row1_at HR.out.1 hx rfl
      have HC := Lib.hid hc
      have hxf := HR.out.2.1 x (List.mem_of_getElem? hx)
      obtain ⟨xA, xc, xV⟩ := x
      obtain ⟨vn, hvn⟩ : ∃ k, k = xV.length := ⟨_, rfl⟩
      dsimp only at HC
      rw [← hvn] at HC
      have HV := Lib.hid (And.intro hxf hvn)
      have HI := Lib.hid hi
      have c0 := HC.out wo bw
      have HLT := Lib.hid HF.out.l64
      have hi20 : (i : Int) < 20 := by have := HN.out.2.2; omega
      clear hc hx hxf hvn hi
      by_cases h60 : 60 < vn
      · have h60i : (60 : Int) < (vn : Int) := by omega
        clear h60
        go_wp2_with fail
        refine (wakes_any wo).mono ?_; rintro e w3 ⟨rfl, B3⟩
        have bz := bw.trans (B3.mono bw.size)
        go_wp2_with fail
        go_ret
        exact ⟨rfl, bz⟩
      have h60i : ¬ (60 : Int) < (vn : Int) := by omega
      have HFL := Lib.hid (efloor_any r)
      have HQ := Lib.hid r
      clear r
      go_wp2_with fail
      refine HFL.out.mono ?_; rintro e w3 ⟨rfl, B3⟩
      clear HFL c0 h60i
      have bw := bw.trans (B3.mono bw.size)
      have HQ3 := Lib.hid (HQ.out.below B3)
      clear HQ B3
      obtain ⟨bse, hbse⟩ : ∃ b, b = (bs[i]?).getD 0 := ⟨_, rfl⟩
      have HBS := Lib.hid hbse
      clear hbse
      go_upto_if 58 with fail
      go_cut [11] (fun s wx => s = .int .u64 (bse : Int) ∧ wx = w3)
      case first =>
        by_cases h5 : i < m
        · have hk5 : (i : Int) < (m : Int) := by omega
          obtain ⟨y, hy⟩ : ∃ y, bs[i]? = some y := ⟨_, List.getElem?_eq_getElem (by rw [HN.out.2.1]; exact h5)⟩
          obtain ⟨ad2, rfl, hc2⟩ := row1_at HR.out.2.2.1 hy rfl
          have c0 := hc2 w3 bw
          have hbb : Hid (bse = y) := by show _ = _; rw [HBS.out, hy]; rfl
          clear hy hc2 h5
          go_wp2_with fail
          go_meet
          exact ⟨by rw [hbb.out], rfl⟩
        · have hk5 : ¬ (i : Int) < (m : Int) := by omega
          have hbb : Hid (bse = 0) := by show _ = _; rw [HBS.out, List.getElem?_eq_none (by rw [HN.out.2.1]; omega)]; rfl
          clear h5
          go_wp2_with fail
          go_meet
          exact ⟨by rw [hbb.out]; rfl, rfl⟩
      case rest =>
        obtain ⟨rfl, rfl⟩ := hcut
        have hwi : IntKind.u8.wrap (i : Int) = (i : Int) := by rw [IntKind.wrap_u8]; have := HN.out.2.2; omega
        have HAD := Lib.hid (eadd_any HQ3.out bw.size i bse (by have := HN.out.2.2; omega) xV vn HV.out.2.symm (by omega) xA xc (fun k x hx => by
          obtain ⟨ad, e, hb, hc⟩ := HV.out.1.1 k x hx
          exact ⟨ad, e, Nat.lt_of_lt_of_le hb bw.size, fun j v hv => (bw.cell (by rw [block_of_add]; exact hb)).trans (hc j v hv)⟩) (fun h0 ad he => by
          obtain ⟨ad', e, hb, _⟩ := HV.out.1.1 0 _ (List.getElem?_eq_getElem (by rw [← HV.out.2]; exact h0))
          rw [he] at e
          cases e
          have h1 := HQ3.out.hB
          have h2 := HQ3.out.hM
          simp
          omega))
        have c1 := HC.out _ bw
        by_cases h7 : i < 7
        · have h7i : (i : Int) < 7 := by omega
          obtain ⟨he, hf2, hlast, hfloor, hbnd⟩ := fr_add HF.out h7 bse xV (fun v hv => (HV.out.1.2.1 v hv).1)
          rw [he] at HAD
          obtain ⟨q2, hq2⟩ : ∃ q2, q2 = q.add i bse xV := ⟨_, rfl⟩
          rw [← hq2] at HAD hf2 hlast hfloor hbnd
          have HF2 := Lib.hid hf2
          have HL2 := Lib.hid (And.intro hlast (And.intro hfloor hbnd))
          clear he hf2 hlast hfloor hbnd hq2 h7
          go_wp2_with fail
          refine HAD.out.mono ?_; rintro e w4 hret
          obtain ⟨rfl, r4, o4⟩ := hret
          have bw4 := HQ3.out.bw o4 bw (Nat.le_refl _)
          have HR4 := Lib.hid r4
          have HB4 := Lib.hid bw4
          clear HAD r4 o4 bw c1 bw4 HQ3 hwi
          go_wp2_with fail
          have hbz := Below.refl w4.heap.size w4
          clear h7i
          go_loopg [7, 13] vn (fun gk2 v7 v13 wr => ∃ k : Nat, k + gk2 = vn ∧ v13 = .int .i64 (k : Int) ∧ v7 = .int .u64 (((xV.take k).foldl (fun m v => max m v.slot) q.last : Nat) : Int) ∧ Below w4.heap.size w4 wr)
          case atStart => exact ⟨0, by omega, rfl, rfl, hbz⟩
          case round =>
            clear hbz
            obtain ⟨k, hk, rfl, rfl, bi⟩ := hrel
            have bw6 := HB4.out.trans (bi.mono HB4.out.size)
            have c2 := HC.out _ bw6
            by_cases h5 : k < vn
            · have hk5 : (k : Int) < (vn : Int) := by omega
              obtain ⟨x, hx⟩ : ∃ x, xV[k]? = some x := ⟨_, List.getElem?_eq_getElem (by rw [← HV.out.2]; exact h5)⟩
              obtain ⟨ad2, hAe, hc2⟩ := row4_at HV.out.1.1 hx
              dsimp only at hAe
              subst hAe
              have c3 := hc2 _ bw6
              have hxm := List.mem_of_getElem? hx
              have HBO := Lib.hid (fun W (h : Below w4.heap.size w4 W) => ebound_any (HR4.out.below h) x.slot)
              simp only [HL2.out.2.2 x hxm] at HBO
              obtain ⟨tv, htv⟩ : ∃ t, t = (xV.take k).foldl (fun m v => max m v.slot) q.last := ⟨_, rfl⟩
              have hsn : (xV.take (k + 1)).foldl (fun m v => max m v.slot) q.last = max tv x.slot := by rw [List.take_add_one, hx, List.foldl_append, htv]; rfl
              rw [← htv]
              have HSN := Lib.hid hsn
              have hmx : max (tv : Int) (x.slot : Int) = ((max tv x.slot : Nat) : Int) := by omega
              generalize x.slot = xs at *
              have HBW := Lib.hid bw6
              have HBI := Lib.hid bi
              have HK := Lib.hid hk
              have HB1 := Lib.hid (HBO.out _ bi)
              clear hx hxm hc2 htv hsn HBO bi hk bw6
              go_wp2_with fail
              refine HB1.out.mono ?_; rintro e w7 ⟨rfl, B7⟩
              clear HB1 hmx c3
              have bi7 := HBI.out.trans (B7.mono HBI.out.size)
              clear B7
              go_wp2_with fail
              go_roundg (vn - (k + 1))
              case measure => have := HK.out; omega
              case rel => exact ⟨k + 1, by have := HK.out; omega, by go_num, by rw [HSN.out], bi7⟩
            · have hk5 : ¬ (k : Int) < (vn : Int) := by omega
              have htop : (xV.take k).foldl (fun m v => max m v.slot) q.last = q2.last := by rw [List.take_of_length_le (by rw [← HV.out.2]; omega), HL2.out.1]
              rw [htop]
              have r6 := HR4.out.below bi
              have HFF := Lib.hid (HL2.out.2.1)
              clear bi HR4 HB4 HL2 h5 hk htop
              have HR6 := Lib.hid r6
              have HFL6 := Lib.hid (efloor_any r6)
              obtain ⟨f6, hf6⟩ : ∃ f, f = q2.floor := ⟨_, rfl⟩
              rw [← hf6] at HFL6
              have hnl : ¬ (f6 : Int) < (q.floor : Int) := by have := HFF.out; omega
              have hmf : max (q.floor : Int) (bse : Int) = (f6 : Int) := by have := HFF.out; omega
              clear r6 hf6
              go_wp2_with fail
              refine HFL6.out.mono ?_; rintro e w8 ⟨rfl, B8⟩
              have bw8 := bw6.trans (B8.mono bw6.size)
              have r8 := HR6.out.below B8
              have HR8 := Lib.hid r8
              have HLA := Lib.hid (elast_any r8)
              have HFR := HF2
              have hab := fr_above HF2.out
              have hbl : 0 < q2.last → boundB q2 (q2.last - 1) = true := fun h => fr_below h
              have HBO := Lib.hid (fun s => ebound_any r8 s)
              have hl64 := HF2.out.l64
              obtain ⟨tp, htp⟩ : ∃ t, t = q2.last := ⟨_, rfl⟩
              rw [← htp] at HLA hab hbl hl64 ⊢
              have HAB := Lib.hid (HBO.out (tp + 1))
              rw [hab] at HAB
              have HTP := Lib.hid htp
              clear HFL6 bw6 c2 B8 r8 hab htp HR6
              go_wp2_with fail
              refine HLA.out.mono ?_; rintro e w9 ⟨rfl, rfl⟩
              clear HLA hnl hmf
              by_cases hmaxt : tp < 18446744073709551615
              · have hmi : ((tp : Int) < 18446744073709551615) = True := eq_true (by omega)
                have hw1 : IntKind.u64.wrap ((tp : Int) + 1) = ((tp + 1 : Nat) : Int) := by rw [IntKind.wrap_u64]; omega
                clear hmaxt
                go_wp2_with fail
                refine HAB.out.mono ?_; rintro e wa ⟨rfl, Ba⟩
                have bwa := bw8.trans (Ba.mono bw8.size)
                have HRa := Lib.hid (HR8.out.below Ba)
                clear HAB HBO HR8 bw8 Ba hmi hw1
                by_cases h0t : 0 < tp
                · have h0j : (0 : Int) < (tp : Int) := by omega
                  have hw2 : IntKind.u64.wrap ((tp : Int) - 1) = ((tp - 1 : Nat) : Int) := by rw [IntKind.wrap_u64]; omega
                  have HBL := Lib.hid (ebound_any HRa.out (tp - 1))
                  rw [hbl h0t] at HBL
                  have HRb := HRa
                  clear h0t hbl hl64
                  go_wp2_with fail
                  refine HBL.out.mono ?_; rintro e wb ⟨rfl, Bb⟩
                  have bwb := bwa.trans (Bb.mono bwa.size)
                  have HRc := Lib.hid (HRb.out.below Bb)
                  clear HBL bwa Bb hw2 h0j
                  go_wp2_with fail
                  go_roundg (n - (i + 1))
                  case measure => have := HI.out; omega
                  case rel => exact ⟨i + 1, q2, by have := HI.out; omega, by go_num, by rw [HTP.out], HRc.out, HFR, bwb⟩
                · have h0j : ¬ (0 : Int) < (tp : Int) := by omega
                  clear h0t hbl hl64
                  go_wp2_with fail
                  go_roundg (n - (i + 1))
                  case measure => have := HI.out; omega
                  case rel => exact ⟨i + 1, q2, by have := HI.out; omega, by go_num, by rw [HTP.out], HRa.out, HFR, bwa⟩
              · have hmi : ((tp : Int) < 18446744073709551615) = False := eq_false (by omega)
                have HRa := HR8
                have bwa := bw8
                clear HAB hmaxt HBO HR8 bw8
                by_cases h0t : 0 < tp
                · have h0j : (0 : Int) < (tp : Int) := by omega
                  have hw2 : IntKind.u64.wrap ((tp : Int) - 1) = ((tp - 1 : Nat) : Int) := by rw [IntKind.wrap_u64]; omega
                  have HBL := Lib.hid (ebound_any HRa.out (tp - 1))
                  rw [hbl h0t] at HBL
                  have HRb := HRa
                  clear h0t hbl hl64
                  go_wp2_with fail
                  refine HBL.out.mono ?_; rintro e wb ⟨rfl, Bb⟩
                  have bwb := bwa.trans (Bb.mono bwa.size)
                  have HRc := Lib.hid (HRb.out.below Bb)
                  clear HBL bwa Bb hw2 h0j
                  go_wp2_with fail
                  go_roundg (n - (i + 1))
                  case measure => have := HI.out; omega
                  case rel => exact ⟨i + 1, q2, by have := HI.out; omega, by go_num, by rw [HTP.out], HRc.out, HFR, bwb⟩
                · have h0j : ¬ (0 : Int) < (tp : Int) := by omega
                  clear h0t hbl hl64
                  go_wp2_with fail
                  go_roundg (n - (i + 1))
                  case measure => have := HI.out; omega
                  case rel => exact ⟨i + 1, q2, by have := HI.out; omega, by go_num, by rw [HTP.out], HRa.out, HFR, bwa⟩
        · have h7i : ¬ (i : Int) < 7 := by omega
          obtain ⟨he, hq, hf2⟩ := fr_no HF.out h7 bse xV
          rw [he, hq] at HAD
          have HF2 := Lib.hid hf2
          clear he hf2 hq h7
          go_wp2_with fail
          refine HAD.out.mono ?_; rintro e w4 hret
          obtain ⟨rfl, r4, o4⟩ := hret
          have bw4 := HQ3.out.bw o4 bw (Nat.le_refl _)
          have HR4 := Lib.hid r4
          clear HAD r4 o4 bw c1 HQ3 hwi
          go_wp2_with fail
          clear h7i
          go_loopg [7, 13] 0 (fun gk2 v7 v13 wr => v13 = .int .i64 0 ∧ v7 = .int .u64 (q.last : Int) ∧ Hid (wr = w4))
          case atStart => exact ⟨rfl, rfl, rfl⟩
          case round =>
            obtain ⟨rfl, rfl, HW4⟩ := hrel
            obtain rfl := HW4.out
            have bw6 := bw4
            have c2 := HC.out _ bw6
            have r6 := HR4.out
            clear HW4 bw4
            by_cases h0 : 0 < vn
            · have h0i : (0 : Int) < (vn : Int) := by omega
              clear h0
              have HR6 := Lib.hid r6
              have HFL6 := Lib.hid (efloor_any r6)
              obtain ⟨f6, hf6⟩ : ∃ f, f = q.floor := ⟨_, rfl⟩
              rw [← hf6] at HFL6
              have hnl : ¬ (f6 : Int) < (q.floor : Int) := by omega
              clear r6 hf6
              go_wp2_with fail
              refine HFL6.out.mono ?_; rintro e w8 ⟨rfl, B8⟩
              have bw8 := bw6.trans (B8.mono bw6.size)
              have r8 := HR6.out.below B8
              have HR8 := Lib.hid r8
              have HLA := Lib.hid (elast_any r8)
              have HFR := HF2
              have hab := fr_above HF2.out
              have hbl : 0 < q.last → boundB q (q.last - 1) = true := fun h => fr_below h
              have HBO := Lib.hid (fun s => ebound_any r8 s)
              have hl64 := HF2.out.l64
              obtain ⟨tp, htp⟩ : ∃ t, t = q.last := ⟨_, rfl⟩
              rw [← htp] at HLA hab hbl hl64 ⊢
              have HAB := Lib.hid (HBO.out (tp + 1))
              rw [hab] at HAB
              have HTP := Lib.hid htp
              clear HFL6 bw6 c2 B8 r8 hab htp HR6
              go_wp2_with fail
              refine HLA.out.mono ?_; rintro e w9 ⟨rfl, rfl⟩
              clear HLA hnl
              by_cases hmaxt : tp < 18446744073709551615
              · have hmi : ((tp : Int) < 18446744073709551615) = True := eq_true (by omega)
                have hw1 : IntKind.u64.wrap ((tp : Int) + 1) = ((tp + 1 : Nat) : Int) := by rw [IntKind.wrap_u64]; omega
                clear hmaxt
                go_wp2_with fail
                refine HAB.out.mono ?_; rintro e wa ⟨rfl, Ba⟩
                have bwa := bw8.trans (Ba.mono bw8.size)
                have HRa := Lib.hid (HR8.out.below Ba)
                clear HAB HBO HR8 bw8 Ba hmi hw1
                by_cases h0t : 0 < tp
                · have h0j : (0 : Int) < (tp : Int) := by omega
                  have hw2 : IntKind.u64.wrap ((tp : Int) - 1) = ((tp - 1 : Nat) : Int) := by rw [IntKind.wrap_u64]; omega
                  have HBL := Lib.hid (ebound_any HRa.out (tp - 1))
                  rw [hbl h0t] at HBL
                  have HRb := HRa
                  clear h0t hbl hl64
                  go_wp2_with fail
                  refine HBL.out.mono ?_; rintro e wb ⟨rfl, Bb⟩
                  have bwb := bwa.trans (Bb.mono bwa.size)
                  have HRc := Lib.hid (HRb.out.below Bb)
                  clear HBL bwa Bb hw2 h0j
                  go_wp2_with fail
                  go_roundg (n - (i + 1))
                  case measure => have := HI.out; omega
                  case rel => exact ⟨i + 1, q, by have := HI.out; omega, by go_num, by rw [HTP.out], HRc.out, HFR, bwb⟩
                · have h0j : ¬ (0 : Int) < (tp : Int) := by omega
                  clear h0t hbl hl64
                  go_wp2_with fail
                  go_roundg (n - (i + 1))
                  case measure => have := HI.out; omega
                  case rel => exact ⟨i + 1, q, by have := HI.out; omega, by go_num, by rw [HTP.out], HRa.out, HFR, bwa⟩
              · have hmi : ((tp : Int) < 18446744073709551615) = False := eq_false (by omega)
                have HRa := HR8
                have bwa := bw8
                clear HAB hmaxt HBO HR8 bw8
                by_cases h0t : 0 < tp
                · have h0j : (0 : Int) < (tp : Int) := by omega
                  have hw2 : IntKind.u64.wrap ((tp : Int) - 1) = ((tp - 1 : Nat) : Int) := by rw [IntKind.wrap_u64]; omega
                  have HBL := Lib.hid (ebound_any HRa.out (tp - 1))
                  rw [hbl h0t] at HBL
                  have HRb := HRa
                  clear h0t hbl hl64
                  go_wp2_with fail
                  refine HBL.out.mono ?_; rintro e wb ⟨rfl, Bb⟩
                  have bwb := bwa.trans (Bb.mono bwa.size)
                  have HRc := Lib.hid (HRb.out.below Bb)
                  clear HBL bwa Bb hw2 h0j
                  go_wp2_with fail
                  go_roundg (n - (i + 1))
                  case measure => have := HI.out; omega
                  case rel => exact ⟨i + 1, q, by have := HI.out; omega, by go_num, by rw [HTP.out], HRc.out, HFR, bwb⟩
                · have h0j : ¬ (0 : Int) < (tp : Int) := by omega
                  clear h0t hbl hl64
                  go_wp2_with fail
                  go_roundg (n - (i + 1))
                  case measure => have := HI.out; omega
                  case rel => exact ⟨i + 1, q, by have := HI.out; omega, by go_num, by rw [HTP.out], HRa.out, HFR, bwa⟩
            · have h0i : ¬ (0 : Int) < (vn : Int) := by omega
              clear h0
              have HR6 := Lib.hid r6
              have HFL6 := Lib.hid (efloor_any r6)
              obtain ⟨f6, hf6⟩ : ∃ f, f = q.floor := ⟨_, rfl⟩
              rw [← hf6] at HFL6
              have hnl : ¬ (f6 : Int) < (q.floor : Int) := by omega
              clear r6 hf6
              go_wp2_with fail
              refine HFL6.out.mono ?_; rintro e w8 ⟨rfl, B8⟩
              have bw8 := bw6.trans (B8.mono bw6.size)
              have r8 := HR6.out.below B8
              have HR8 := Lib.hid r8
              have HLA := Lib.hid (elast_any r8)
              have HFR := HF2
              have hab := fr_above HF2.out
              have hbl : 0 < q.last → boundB q (q.last - 1) = true := fun h => fr_below h
              have HBO := Lib.hid (fun s => ebound_any r8 s)
              have hl64 := HF2.out.l64
              obtain ⟨tp, htp⟩ : ∃ t, t = q.last := ⟨_, rfl⟩
              rw [← htp] at HLA hab hbl hl64 ⊢
              have HAB := Lib.hid (HBO.out (tp + 1))
              rw [hab] at HAB
              have HTP := Lib.hid htp
              clear HFL6 bw6 c2 B8 r8 hab htp HR6
              go_wp2_with fail
              refine HLA.out.mono ?_; rintro e w9 ⟨rfl, rfl⟩
              clear HLA hnl
              by_cases hmaxt : tp < 18446744073709551615
              · have hmi : ((tp : Int) < 18446744073709551615) = True := eq_true (by omega)
                have hw1 : IntKind.u64.wrap ((tp : Int) + 1) = ((tp + 1 : Nat) : Int) := by rw [IntKind.wrap_u64]; omega
                clear hmaxt
                go_wp2_with fail
                refine HAB.out.mono ?_; rintro e wa ⟨rfl, Ba⟩
                have bwa := bw8.trans (Ba.mono bw8.size)
                have HRa := Lib.hid (HR8.out.below Ba)
                clear HAB HBO HR8 bw8 Ba hmi hw1
                by_cases h0t : 0 < tp
                · have h0j : (0 : Int) < (tp : Int) := by omega
                  have hw2 : IntKind.u64.wrap ((tp : Int) - 1) = ((tp - 1 : Nat) : Int) := by rw [IntKind.wrap_u64]; omega
                  have HBL := Lib.hid (ebound_any HRa.out (tp - 1))
                  rw [hbl h0t] at HBL
                  have HRb := HRa
                  clear h0t hbl hl64
                  go_wp2_with fail
                  refine HBL.out.mono ?_; rintro e wb ⟨rfl, Bb⟩
                  have bwb := bwa.trans (Bb.mono bwa.size)
                  have HRc := Lib.hid (HRb.out.below Bb)
                  clear HBL bwa Bb hw2 h0j
                  go_wp2_with fail
                  go_roundg (n - (i + 1))
                  case measure => have := HI.out; omega
                  case rel => exact ⟨i + 1, q, by have := HI.out; omega, by go_num, by rw [HTP.out], HRc.out, HFR, bwb⟩
                · have h0j : ¬ (0 : Int) < (tp : Int) := by omega
                  clear h0t hbl hl64
                  go_wp2_with fail
                  go_roundg (n - (i + 1))
                  case measure => have := HI.out; omega
                  case rel => exact ⟨i + 1, q, by have := HI.out; omega, by go_num, by rw [HTP.out], HRa.out, HFR, bwa⟩
              · have hmi : ((tp : Int) < 18446744073709551615) = False := eq_false (by omega)
                have HRa := HR8
                have bwa := bw8
                clear HAB hmaxt HBO HR8 bw8
                by_cases h0t : 0 < tp
                · have h0j : (0 : Int) < (tp : Int) := by omega
                  have hw2 : IntKind.u64.wrap ((tp : Int) - 1) = ((tp - 1 : Nat) : Int) := by rw [IntKind.wrap_u64]; omega
                  have HBL := Lib.hid (ebound_any HRa.out (tp - 1))
                  rw [hbl h0t] at HBL
                  have HRb := HRa
                  clear h0t hbl hl64
                  go_wp2_with fail
                  refine HBL.out.mono ?_; rintro e wb ⟨rfl, Bb⟩
                  have bwb := bwa.trans (Bb.mono bwa.size)
                  have HRc := Lib.hid (HRb.out.below Bb)
                  clear HBL bwa Bb hw2 h0j
                  go_wp2_with fail
                  go_roundg (n - (i + 1))
                  case measure => have := HI.out; omega
                  case rel => exact ⟨i + 1, q, by have := HI.out; omega, by go_num, by rw [HTP.out], HRc.out, HFR, bwb⟩
                · have h0j : ¬ (0 : Int) < (tp : Int) := by omega
                  clear h0t hbl hl64
                  go_wp2_with fail
                  go_roundg (n - (i + 1))
                  case measure => have := HI.out; omega
                  case rel => exact ⟨i + 1, q, by have := HI.out; omega, by go_num, by rw [HTP.out], HRa.out, HFR, bwa⟩

    · have hk4 : ¬ (i : Int) < (n : Int) := by omega
      clear r HF
      go_wp2_with fail
      refine (wakes_any wo).mono ?_; rintro e w2 ⟨rfl, B2⟩
      have bz := bw.trans (B2.mono bw.size)
      go_wp2_with fail
      go_ret
      exact ⟨rfl, bz⟩
end Go.Proofs.Ytbamfnlgapchkaa.Ele
