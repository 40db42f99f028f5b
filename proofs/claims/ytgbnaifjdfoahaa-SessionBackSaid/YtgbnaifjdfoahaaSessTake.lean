/- A table read from bytes, walked: the program's Take. Conditions: the reader's block holds it; its bytes are at most 1,000,000. -/
import Derived.Test.YtgbnaifjdfoahaaSessTakeP
import Derived.Test.YtgbnaifjdfoahaaWireNum
import Derived.Test.YtgbnaifjdfoahaaKeepR
import Derived.Test.YtgbnaifjdfoahaaKeepN
import Derived.Deep.DeepCutAuto
import Derived.Deep.LoopGhost
namespace Go.Proofs.Ytgbnaifjdfoahaa.Sess
open Go.RowKit Wire

theorem _root_.Go.Proofs.Ytgbnaifjdfoahaa.Kr.set12 {g h : Nat} {t : TypeId} {c0 c1 c2 c3 c4 c5 c6 c7 c8 c9 c10 c11 v0 v1 v2 v3 v4 v5 v6 v7 v8 v9 v10 v11 : Value} {L : List (Nat × TypeId × Array Value)} {w W : World} (k : Kr g ((h, t, #[c0, c1, c2, c3, c4, c5, c6, c7, c8, c9, c10, c11]) :: L) w W) (hne : ∀ p ∈ L, p.1 ≠ h) (hw : h = g ∨ w.heap.size ≤ h) :
    Kr g ((h, t, #[v0, v1, v2, v3, v4, v5, v6, v7, v8, v9, v10, v11]) :: L) w ((((((((((((W.setCell ⟨h, 0, none⟩ v0).setCell ⟨h, 1, none⟩ v1).setCell ⟨h, 2, none⟩ v2).setCell ⟨h, 3, none⟩ v3).setCell ⟨h, 4, none⟩ v4).setCell ⟨h, 5, none⟩ v5).setCell ⟨h, 6, none⟩ v6).setCell ⟨h, 7, none⟩ v7).setCell ⟨h, 8, none⟩ v8).setCell ⟨h, 9, none⟩ v9).setCell ⟨h, 10, none⟩ v10).setCell ⟨h, 11, none⟩ v11) := by
  have h0 := k.set_ (i := 0) hne hw v0
  simp only [List.setIfInBounds_toArray, List.set_cons_zero] at h0
  have h1 := h0.set_ (i := 1) hne hw v1
  simp only [List.setIfInBounds_toArray, List.set_cons_zero, List.set_cons_succ] at h1
  have h2 := h1.set_ (i := 2) hne hw v2
  simp only [List.setIfInBounds_toArray, List.set_cons_zero, List.set_cons_succ] at h2
  have h3 := h2.set_ (i := 3) hne hw v3
  simp only [List.setIfInBounds_toArray, List.set_cons_zero, List.set_cons_succ] at h3
  have h4 := h3.set_ (i := 4) hne hw v4
  simp only [List.setIfInBounds_toArray, List.set_cons_zero, List.set_cons_succ] at h4
  have h5 := h4.set_ (i := 5) hne hw v5
  simp only [List.setIfInBounds_toArray, List.set_cons_zero, List.set_cons_succ] at h5
  have h6 := h5.set_ (i := 6) hne hw v6
  simp only [List.setIfInBounds_toArray, List.set_cons_zero, List.set_cons_succ] at h6
  have h7 := h6.set_ (i := 7) hne hw v7
  simp only [List.setIfInBounds_toArray, List.set_cons_zero, List.set_cons_succ] at h7
  have h8 := h7.set_ (i := 8) hne hw v8
  simp only [List.setIfInBounds_toArray, List.set_cons_zero, List.set_cons_succ] at h8
  have h9 := h8.set_ (i := 9) hne hw v9
  simp only [List.setIfInBounds_toArray, List.set_cons_zero, List.set_cons_succ] at h9
  have h10 := h9.set_ (i := 10) hne hw v10
  simp only [List.setIfInBounds_toArray, List.set_cons_zero, List.set_cons_succ] at h10
  have h11 := h10.set_ (i := 11) hne hw v11
  simp only [List.setIfInBounds_toArray, List.set_cons_zero, List.set_cons_succ] at h11
  exact h11
theorem kr_tab (g : Nat) (q : Rd) (w : World) (h : RdAt w g q) (a b : Array Value) : Kr g [(w.heap.size + 1, 31, b), (w.heap.size, 31, a), (g, 98, rdC q)] w
    ((w.alloc (.cells a 31)).alloc (.cells b 31)) := by
  have k := (((Kr.refl g w).cons (a := (g, 98, rdC q)) h).new 31 a).new 31 b
  have e0 : (w.alloc (.cells a 31)).heap.size = w.heap.size + 1 := by simp
  rw [e0] at k
  exact k
def entC (x : Ent) : Array Value := #[.int .u32 (x.seq : Int), .int .u8 (x.code : Int), .string x.text]
def TakeAt (g : Nat) (q : Rd) (w : World) (gk : Nat) (i : Value) (wr : World) : Prop :=
  ∃ k : Nat, k + gk = 4 ∧ i = .int .i64 (k : Int) ∧ Kr g [(w.heap.size + 1, 31, tabC (tabK q k)), (w.heap.size, 31, tabC (fun _ => zE)), (g, 98, rdC (rdK q k))] w wr
set_option linter.unusedSimpArgs false in
set_option maxRecDepth 100000 in
set_option maxHeartbeats 8000000 in
theorem sessTake_any (g : Nat) (q : Rd) (hl : q.rest.length ≤ 1000000) (w : World) (h : RdAt w g q) :
    Calls Try.prog 25 #[.pointer (some ⟨g, 0, none⟩)] w fun e w' => e = .returned (tabV (takeT q)) ∧ RdGo w g (rdK q 4) w' := by
  have hg := Blk.lt h
  have k0 := kr_tab g q w h (tabC (fun _ => zE)) (tabC (fun _ => zE))
  obtain ⟨r, hr⟩ : ∃ r, rdK q 4 = r := ⟨_, rfl⟩
  have ht : takeT q = if r.err = 0 then tabK q 4 else fun _ => zE := by unfold takeT; rw [hr]
  obtain ⟨t, htt⟩ : ∃ t, takeT q = t := ⟨_, rfl⟩
  rw [htt] at ht ⊢
  rw [hr]
  obtain ⟨t4, ht4⟩ : ∃ t, tabK q 4 = t := ⟨_, rfl⟩
  rw [ht4] at ht
  have HT := Lib.hid ht
  have HR4 := Lib.hid hr
  have HT4 := Lib.hid ht4
  clear ht htt ht4 hr h
  go_enter Try.func25, Try.ntmps25
  go_wp2_with fail
  go_loopg [6] 4 (fun gk i wr => TakeAt g q w gk i wr)
  case atStart => exact ⟨0, by omega, rfl, k0⟩
  case round =>
    clear k0
    obtain ⟨k, hk, rfl, kr⟩ := hrel
    by_cases h4 : k < 4
    · have hk4 : (k : Int) < 4 := by omega
      have hlr := Nat.le_trans (rdK_rest q k) hl
      have hts := tabK_succ q k
      have hrs : rdK q (k + 1) = (stepR (rdK q k)).2 := rfl
      unfold entK at hts
      clear HT HR4 HT4
      generalize tabK q k = t at *
      generalize rdK q k = r at *
      obtain ⟨s, hs⟩ : ∃ s, stepR r = s := ⟨_, rfl⟩
      rw [hs] at hts hrs
      obtain ⟨sx, sr⟩ := s
      simp only at hts hrs
      have HTS := Lib.hid hts
      have HRS := Lib.hid hrs
      obtain ⟨n, c, l, r1, r2, r3, e1, e2, e3⟩ := parts r
      have hm := midR_eq e1 e2 e3
      have hn := below_lt (by omega) e1
      have hl1 := Nat.le_trans (below_rest e1) hlr
      have hl2 := Nat.le_trans (byte_rest e2) hl1
      have hc := byte_lt e2
      have B1 := fun W (hW : RdAt W g r) => e1 ▸ Below_any g r 4294967296 (by omega) W hW
      have B2 := fun W (hW : RdAt W g r1) => e2 ▸ byte_any g r1 (by omega) W hW
      have B3 := fun W (hW : RdAt W g r2) => e3 ▸ str_any g r2 64 (by omega) (by omega) (by omega) W hW
      have H1 := Lib.hid B1
      have H2 := Lib.hid B2
      have H3 := Lib.hid B3
      have hst : (sx, sr) = stepR r := hs.symm
      unfold stepR at hst
      obtain ⟨m, hmm⟩ : ∃ m, midR r = m := ⟨_, rfl⟩
      rw [hmm] at hm hst
      have HM := Lib.hid hm
      have hmc : m.1.code < 256 := by
        rw [hm]
        split
        · show 0 < _; omega
        · exact hc
      have HST := Lib.hid hst
      clear hm hst hmm hs B1 B2 B3 e1 e2 e3 hts hrs hlr hl1 hl2
      have x1 : (0 : Int) ≤ (n : Int) := by omega
      have x2 : (n : Int) < 4294967296 := by omega
      clear hn
      unfold NumRet at H1
      unfold ByteRet at H2
      unfold StrRet at H3
      simp only at H1 H2 H3
      go_wp2_with fail
      refine (H1.out _ kr.i3).mono ?_; rintro e w1 ⟨rfl, g1⟩
      have kr1 := (kr.rot3).rd g1 (by simp; omega)
      clear g1 kr
      have kr2 := kr1.new 29 #[.int .u32 (n : Int), .int .u8 0, .string ⟨#[]⟩]
      have sz := kr1.i2.lt
      simp only at sz
      go_upto_if 15 with fail
      clear x1 x2
      go_cut [] (fun wx => Kr g [(w1.heap.size, 29, entC m.1), (g, 98, rdC m.2), (w.heap.size + 1, 31, tabC t), (w.heap.size, 31, tabC (fun _ => zE))] w wx)
      case first =>
        by_cases h0 : n = 0
        · have hb : ((n : Int) != 0) = false := by rw [h0]; rfl
          have hmv := HM.out
          rw [if_pos h0] at hmv
          have HMV := Lib.hid hmv
          subst h0
          clear hmv
          go_wp2_with fail
          go_meet
          rw [HMV.out]
          exact kr2
        · have hb : ((n : Int) != 0) = true := by rw [bne_iff_ne]; omega
          have hmv := HM.out
          rw [if_neg h0] at hmv
          have HMV := Lib.hid hmv
          clear hmv h0
          have q1 := kr2.i2
          go_wp2_with fail
          refine (H2.out _ q1).mono ?_; rintro e w2 ⟨rfl, g2⟩
          have kr3 := (kr2.swap).rd g2 (by simp; omega)
          have kr3 := kr3.swap
          obtain ⟨c0, c1, c2⟩ := kr3.i1.c3
          obtain ⟨f0, f1, f2⟩ := kr3.i1.f3
          simp only at c0 c1 c2 f0 f1 f2
          have kr4 := kr3.set_ (i := 1) (by simp; omega) (.inr (by omega)) (.int .u8 (c : Int))
          have q2 := kr4.i2
          clear g2 kr2 kr3
          go_wp2_with fail
          refine (H3.out _ q2).mono ?_; rintro e w3 ⟨rfl, g3⟩
          have kr5 := ((kr4.swap).rd g3 (by simp; omega)).swap
          obtain ⟨d0, d1, d2⟩ := kr5.i1.c3
          obtain ⟨p0, p1, p2⟩ := kr5.i1.f3
          simp only at d0 d1 d2 p0 p1 p2
          have kr6 := kr5.set_ (i := 2) (by simp; omega) (.inr (by omega)) (.string ⟨l.toArray⟩)
          clear g3 kr4 kr5
          go_wp2_with fail
          go_meet
          rw [HMV.out]
          exact kr6
      case rest =>
        clear kr1 kr2
        have kr := hcut
        clear hcut
        obtain ⟨mx, mr⟩ := m
        obtain ⟨ms, mc, mt⟩ := mx
        unfold entC at kr
        simp only at kr hmc HST
        obtain ⟨c0, c1, c2⟩ := kr.i1.c3
        simp only at c0 c1 c2
        go_upto_if 27 with fail
        go_cut [] (fun wx => Kr g [(w1.heap.size, 29, #[.int .u32 (ms : Int), .int .u8 (mc : Int), .string mt]), (g, 98, rdC sr), (w.heap.size + 1, 31, tabC t), (w.heap.size, 31, tabC (fun _ => zE))] w wx)
        case first =>
          by_cases h0 : 3 < mc
          · have hv := HST.out
            rw [if_pos h0] at hv
            have HV := Lib.hid (congrArg Prod.snd hv)
            simp only at HV
            have h0 : 3 < (mc : Int) := by omega
            clear hv
            go_wp2_with fail
            refine (bad_any g mr _ kr.i2).mono ?_; rintro e w2 ⟨⟨v, rfl⟩, g2⟩
            have kr3 := ((kr.swap).rd g2 (by simp; omega)).swap
            clear g2
            go_wp2_with fail
            go_meet
            rw [HV.out]
            exact kr3
          · have hv := HST.out
            rw [if_neg h0] at hv
            have HV := Lib.hid (congrArg Prod.snd hv)
            simp only at HV
            have h0 : ¬ 3 < (mc : Int) := by omega
            clear hv
            go_wp2_with fail
            go_meet
            rw [HV.out]
            exact kr
        case rest =>
          clear kr c0 c1 c2
          have kr := hcut
          clear hcut
          have hv := congrArg Prod.fst HST.out
          simp only at hv
          subst hv
          obtain ⟨c0, c1, c2⟩ := kr.i1.c3
          simp only at c0 c1 c2
          have kr := kr.rot3
          have E := fun kk (hkk : kk < 4) => tabC_set t kk hkk ⟨ms, mc, mt⟩
          have HE := Lib.hid E
          have hne : ∀ p ∈ [(w1.heap.size, 29, #[Value.int .u32 (ms : Int), .int .u8 (mc : Int), .string mt]), (g, 98, rdC sr), (w.heap.size, 31, tabC (fun _ => zE))], p.1 ≠ w.heap.size + 1 := by simp; omega
          have hw : w.heap.size + 1 = g ∨ w.heap.size ≤ w.heap.size + 1 := .inr (by omega)
          have KH := Lib.hid kr
          unfold tabC at kr
          obtain ⟨a0, a1, a2, a3, a4, a5, a6, a7, a8, a9, a10, a11⟩ := kr.i1.c12
          obtain ⟨f0, f1, f2, f3, f4, f5, f6, f7, f8, f9, f10, f11⟩ := kr.i1.f12
          simp only at a0 a1 a2 a3 a4 a5 a6 a7 a8 a9 a10 a11 f0 f1 f2 f3 f4 f5 f6 f7 f8 f9 f10 f11
          clear kr E
          rcases (show k = 0 ∨ k = 1 ∨ k = 2 ∨ k = 3 by omega) with rfl | rfl | rfl | rfl
          · have K2 := ((KH.out.set_ (i := 0) hne hw (.int .u32 (ms : Int))).set_ (i := 1) hne hw (.int .u8 (mc : Int))).set_ (i := 2) hne hw (.string mt)
            go_wp2_with fail
            go_roundg (4 - (0 + 1))
            case measure => omega
            case rel =>
              refine ⟨0 + 1, by omega, by go_num, ?_⟩
              rw [HTS.out, HRS.out, ← HE.out 0 (by omega)]
              exact Kr.sub K2 (fun p hp => by
                simp only [List.mem_cons] at hp ⊢
                rcases hp with hp | hp | hp | hp
                · exact .inl hp
                · exact .inr (.inr (.inr (.inl hp)))
                · exact .inr (.inr (.inl hp))
                · exact absurd hp (by simp))
          · have K2 := ((KH.out.set_ (i := 3) hne hw (.int .u32 (ms : Int))).set_ (i := 4) hne hw (.int .u8 (mc : Int))).set_ (i := 5) hne hw (.string mt)
            go_wp2_with fail
            go_roundg (4 - (1 + 1))
            case measure => omega
            case rel =>
              refine ⟨1 + 1, by omega, by go_num, ?_⟩
              rw [HTS.out, HRS.out, ← HE.out 1 (by omega)]
              exact Kr.sub K2 (fun p hp => by
                simp only [List.mem_cons] at hp ⊢
                rcases hp with hp | hp | hp | hp
                · exact .inl hp
                · exact .inr (.inr (.inr (.inl hp)))
                · exact .inr (.inr (.inl hp))
                · exact absurd hp (by simp))
          · have K2 := ((KH.out.set_ (i := 6) hne hw (.int .u32 (ms : Int))).set_ (i := 7) hne hw (.int .u8 (mc : Int))).set_ (i := 8) hne hw (.string mt)
            go_wp2_with fail
            go_roundg (4 - (2 + 1))
            case measure => omega
            case rel =>
              refine ⟨2 + 1, by omega, by go_num, ?_⟩
              rw [HTS.out, HRS.out, ← HE.out 2 (by omega)]
              exact Kr.sub K2 (fun p hp => by
                simp only [List.mem_cons] at hp ⊢
                rcases hp with hp | hp | hp | hp
                · exact .inl hp
                · exact .inr (.inr (.inr (.inl hp)))
                · exact .inr (.inr (.inl hp))
                · exact absurd hp (by simp))
          · have K2 := ((KH.out.set_ (i := 9) hne hw (.int .u32 (ms : Int))).set_ (i := 10) hne hw (.int .u8 (mc : Int))).set_ (i := 11) hne hw (.string mt)
            go_wp2_with fail
            go_roundg (4 - (3 + 1))
            case measure => omega
            case rel =>
              refine ⟨3 + 1, by omega, by go_num, ?_⟩
              rw [HTS.out, HRS.out, ← HE.out 3 (by omega)]
              exact Kr.sub K2 (fun p hp => by
                simp only [List.mem_cons] at hp ⊢
                rcases hp with hp | hp | hp | hp
                · exact .inl hp
                · exact .inr (.inr (.inr (.inl hp)))
                · exact .inr (.inr (.inl hp))
                · exact absurd hp (by simp))
    · obtain rfl : k = 4 := by omega
      rw [HR4.out, HT4.out] at kr
      go_wp2_with fail
      refine (err_any g r _ kr.i3).mono ?_; rintro e w1 ⟨rfl, rfl⟩
      have kr := kr.swap
      unfold tabC at kr
      by_cases h0 : r.err = 0
      · have hb : ((r.err : Int) != 0) = false := by rw [h0]; rfl
        have hv := HT.out
        rw [if_pos h0] at hv
        have HV := Lib.hid hv
        obtain ⟨a0, a1, a2, a3, a4, a5, a6, a7, a8, a9, a10, a11⟩ := kr.i2.c12
        obtain ⟨c0, c1, c2, c3, c4, c5, c6, c7, c8, c9, c10, c11⟩ := kr.i1.c12
        obtain ⟨f0, f1, f2, f3, f4, f5, f6, f7, f8, f9, f10, f11⟩ := kr.i1.f12
        simp only at a0 a1 a2 a3 a4 a5 a6 a7 a8 a9 a10 a11 c0 c1 c2 c3 c4 c5 c6 c7 c8 c9 c10 c11 f0 f1 f2 f3 f4 f5 f6 f7 f8 f9 f10 f11
        have K2 := kr.set12 (v0 := .int .u32 ((t4 0).seq : Int)) (v1 := .int .u8 ((t4 0).code : Int)) (v2 := .string (t4 0).text) (v3 := .int .u32 ((t4 1).seq : Int)) (v4 := .int .u8 ((t4 1).code : Int)) (v5 := .string (t4 1).text) (v6 := .int .u32 ((t4 2).seq : Int)) (v7 := .int .u8 ((t4 2).code : Int)) (v8 := .string (t4 2).text) (v9 := .int .u32 ((t4 3).seq : Int)) (v10 := .int .u8 ((t4 3).code : Int)) (v11 := .string (t4 3).text) (by simp; omega) (.inr (Nat.le_refl _))
        have KH := Lib.hid K2
        clear hv HT kr h0 K2
        go_wp2_with fail
        obtain ⟨y0, y1, y2, y3, y4, y5, y6, y7, y8, y9, y10, y11⟩ := KH.out.i1.c12
        refine bodyPost_ret (v := tabV t4) (by simp [results, Try.results25, go_sem, tabV, tabC, y0, y1, y2, y3, y4, y5, y6, y7, y8, y9, y10, y11]) rfl ?_
        rw [HV.out]
        exact ⟨rfl, KH.out.i3, KH.out.gw⟩
      · have hb : ((r.err : Int) != 0) = true := by rw [bne_iff_ne]; omega
        have hv := HT.out
        rw [if_neg h0] at hv
        have HV := Lib.hid hv
        obtain ⟨c0, c1, c2, c3, c4, c5, c6, c7, c8, c9, c10, c11⟩ := kr.i1.c12
        obtain ⟨f0, f1, f2, f3, f4, f5, f6, f7, f8, f9, f10, f11⟩ := kr.i1.f12
        simp only at c0 c1 c2 c3 c4 c5 c6 c7 c8 c9 c10 c11 f0 f1 f2 f3 f4 f5 f6 f7 f8 f9 f10 f11
        have K2 := kr.set12 (v0 := .int .u32 0) (v1 := .int .u8 0) (v2 := .string ⟨#[]⟩) (v3 := .int .u32 0) (v4 := .int .u8 0) (v5 := .string ⟨#[]⟩) (v6 := .int .u32 0) (v7 := .int .u8 0) (v8 := .string ⟨#[]⟩) (v9 := .int .u32 0) (v10 := .int .u8 0) (v11 := .string ⟨#[]⟩) (by simp; omega) (.inr (Nat.le_refl _))
        have KH := Lib.hid K2
        clear hv HT kr h0 K2
        go_wp2_with fail
        obtain ⟨y0, y1, y2, y3, y4, y5, y6, y7, y8, y9, y10, y11⟩ := KH.out.i1.c12
        refine bodyPost_ret (v := tabV (fun _ => zE)) (by simp [results, Try.results25, go_sem, tabV, tabC, zE, noText, y0, y1, y2, y3, y4, y5, y6, y7, y8, y9, y10, y11]) rfl ?_
        rw [HV.out]
        exact ⟨rfl, KH.out.i3, KH.out.gw⟩
end Go.Proofs.Ytgbnaifjdfoahaa.Sess
