/- The law ThriftLeast, walked. Conditions: the list can be read. -/
import Derived.Test.YtbamfnlgapchkaaThLP
namespace Go.Proofs.Ytbamfnlgapchkaa.Thr
open Go Go.RowKit Mem DrawInv Chn

set_option linter.unusedVariables false in
set_option maxRecDepth 100000 in
set_option maxHeartbeats 2000000 in
theorem tleast_any (me : Nat) (hme : me < 256) (l : List Nat) (hl : ∀ x ∈ l, x < 256) (n : Nat) (hn : l.length = n) (hn63 : n ≤ 9223372036854775807) (A : Option Addr) (k cf : Nat) (hcf : cf < 256) (w : World) (hr : Reads w w.heap.size 1 A n (l.map u8v)) : Calls Try.prog 10 #[.int .u8 (me : Int), .slice A n k, .int .u8 (cf : Int)] w fun e w' => e = .returned (.bool true) ∧ Below w.heap.size w w' := by
  by_cases h1 : 100 < n
  · have h1i : (100 : Int) < (n : Int) := by omega
    clear h1 hr hn hl hn63
    go_enter Try.func10, Try.ntmps10
    go_wp2_with fail
    refine (wakes_any w).mono ?_; rintro e w1 ⟨rfl, bw⟩
    go_wp2_with fail
    go_ret
    exact ⟨rfl, bw⟩
  have h1i : ¬ (100 : Int) < (n : Int) := by omega
  by_cases h2 : 6 < me
  · have h2i : (7 : Int) ≤ (me : Int) := by omega
    clear h1 h2 hr hn hl hn63
    go_enter Try.func10, Try.ntmps10
    go_wp2_with fail
    refine (wakes_any w).mono ?_; rintro e w1 ⟨rfl, bw⟩
    go_wp2_with fail
    go_ret
    exact ⟨rfl, bw⟩
  have h2i : ¬ (7 : Int) ≤ (me : Int) := by omega
  have HB := Lib.hid (tnew_any me (by omega) w)
  have HW := Lib.hid (fun W => with_any cf 0 hcf (by omega) W)
  obtain ⟨c, hc⟩ : ∃ c, c = withN cf 0 := ⟨_, rfl⟩
  have hc128 : c < 128 := by rw [hc]; exact with_lt _ _
  rw [← hc] at HW
  have HLEN := Lib.hid (fun W => len_any c (by omega) W)
  have HC : Hid (c < 256) := by show _ < _; omega
  have HM : Hid (me < 7 ∧ n ≤ 100) := ⟨by omega, by omega⟩
  have HP0 := Lib.hid (fun (row : List Nat) (B g : Nat) (v : Value) (W : World) (q : ThS B g me row v W) => tpick_any q HM.out.1 c HC.out)
  have HR := Lib.hid hr
  have HN := Lib.hid hn
  by_cases hz : lenN c = 0
  · have hz1 : c = 0 := (len_zero c hc128).1 hz
    have hp0 : setN ((outT (listN c) (allT me [] c)).take (needN c)) = 0 := by
      have e1 : listN c = [] := by rw [hz1]; decide
      have h3 : outT (listN c) (allT me [] c) = [] := List.eq_nil_iff_forall_not_mem.2 fun x hx => by have := out_sub _ _ x hx; rw [e1] at this; cases this
      rw [h3, List.take_nil]
      decide
    have HPZ := Lib.hid (fun (B g : Nat) (v : Value) (W : World) (q : ThS B g me [] v W) => HP0.out [] B g v W q)
    rw [hp0] at HPZ
    rw [hz] at HLEN
    clear hz hz1 hp0 HP0 h1 h2 hr hn hl hn63 hc hme hcf hc128
    go_enter Try.func10, Try.ntmps10
    go_wp2_with fail
    refine HB.out.mono ?_; rintro e w1 ⟨g, v, rfl, q, bw⟩
    clear HB
    go_wp2_with fail
    refine (HW.out _).mono ?_; rintro e w2 ⟨rfl, rfl⟩
    clear HW
    go_wp2_with fail
    refine (HLEN.out _).mono ?_; rintro e w2 ⟨rfl, rfl⟩
    clear HLEN
    have HPQ := Lib.hid (HPZ.out _ _ _ _ q)
    clear HPZ q
    go_wp2_with fail
    refine HPQ.out.mono ?_; rintro e w2 ⟨rfl, B2⟩
    have bw := bw.trans (B2.mono bw.size)
    go_wp2_with fail
    refine (wakes_any w2).mono ?_; rintro e w3 ⟨rfl, B3⟩
    have bw := bw.trans (B3.mono bw.size)
    go_wp2_with fail
    go_ret
    exact ⟨rfl, bw⟩
  have hlz : (((lenN c : Nat) : Int) == 0) = false := beq_eq_false_iff_ne.2 (by omega)
  obtain ⟨f, hf⟩ : ∃ f, f = pickN me c [] := ⟨_, rfl⟩
  have HF : Hid (lenN f = needN c ∧ majorB c f = true ∧ f < 256) := ⟨by rw [hf]; exact pickN_len me c [] hz, by rw [hf]; exact pick_major me c [] hz, by rw [hf]; have := pickN_lt me c []; omega⟩
  have HPF := Lib.hid (fun (B g : Nat) (v : Value) (W : World) (q : ThS B g me [] v W) => HP0.out [] B g v W q)
  rw [show setN ((outT (listN c) (allT me [] c)).take (needN c)) = f from hf.symm] at HPF
  have HPK : Hid (∀ (row : List Nat) (B g : Nat) (v : Value) (W : World) (q : ThS B g me row v W), Calls Try.prog 37 #[.pointer (some ⟨g, 0, none⟩), .int .u8 (c : Int)] W fun e w' => e = .returned (.int .u8 ((pickN me c row : Nat) : Int)) ∧ Below W.heap.size W w') := HP0.out
  have HX : Hid (∀ row, withoutN (pickN me c row) c = 0 ∧ majorB c (pickN me c row) = true ∧ bothN (pickN me c row) f ≠ 0 ∧ hasB (pickN me c row) me = hasB c me ∧ pickN me c row < 256 ∧ ∀ n, n < 7 → hasB (pickN me c row) n = true → majorB c (withoutN (pickN me c row) (ofN [n])) = false) := fun row =>
    ⟨pick_sub me c row HC.out, pick_major me c row hz, by rw [hf]; exact pick_meet me c row [] hz, pick_me me c row HM.out.1, (by have := pickN_lt me c row; omega), fun n hn h => pick_least me c row HC.out hz hn h⟩
  have HX2 : Hid (∀ row x, 1 < lenN c → hasB c x = true → hasB (pickN me c (heardT me row x)) x = true) := fun row x h1 h2 => pick_heard me c row HM.out.1 h2 h1
  have HLX := Lib.hid hl
  have HMF := Lib.hid (fun W => major_any c f HC.out HF.out.2.2 W)
  rw [HF.out.2.1] at HMF
  have HLF := Lib.hid (fun W => len_any f HF.out.2.2 W)
  rw [HF.out.1] at HLF
  have HNC := Lib.hid (fun W => need_any c HC.out W)
  have HHM := Lib.hid (fun W => has_b c me HC.out (by have := HM.out.1; omega) W)
  obtain ⟨lc, hlc⟩ : ∃ lc, lc = lenN c := ⟨_, rfl⟩
  rw [← hlc] at hlz HLEN HX2
  generalize needN c = nd at *
  generalize hasB c me = hcm at *
  clear hz hf HP0 h1 h2 hr hn hl hn63 hc hme hcf hc128 hlc
  go_enter Try.func10, Try.ntmps10
  go_wp2_with fail
  refine HB.out.mono ?_; rintro e w1 ⟨g, v, rfl, q, bw⟩
  clear HB
  go_wp2_with fail
  refine (HW.out _).mono ?_; rintro e w2 ⟨rfl, rfl⟩
  clear HW
  go_wp2_with fail
  refine (HLEN.out _).mono ?_; rintro e w2 ⟨rfl, rfl⟩
  have HPQ := Lib.hid (HPF.out _ _ _ _ q)
  have HQ1 := Lib.hid q
  clear HPF q
  go_wp2_with fail
  refine HPQ.out.mono ?_; rintro e w2 ⟨rfl, B2⟩
  clear HPQ
  have bw := bw.trans (B2.mono bw.size)
  have q2 := HQ1.out.below B2
  clear HQ1 B2 h1i h2i hlz
  go_wp2_with fail
  go_loopg [11] n (fun gk v11 wr => ∃ (i : Nat) (r : Value), i + gk = n ∧ v11 = .int .i64 (i : Int) ∧ ThS w.heap.size g me (rowAt me l i) r wr ∧ Below w.heap.size w wr)
  case atStart => exact ⟨0, v, by omega, rfl, q2, bw⟩
  case round =>
    clear q2 bw
    obtain ⟨i, r, hi, rfl, q, bw⟩ := hrel
    obtain ⟨wo, rfl⟩ : ∃ wo : World, wo = wr := ⟨_, rfl⟩
    by_cases h4 : i < n
    · have hk4 : (i : Int) < (n : Int) := by omega
      obtain ⟨ad, ux, rfl, hadl, hu, hcell⟩ := HR.out.at_ h4
      obtain ⟨x, hx, hux⟩ : ∃ x, l[i]? = some x ∧ ux = .int .u8 (x : Int) := by
        rw [List.getElem?_map] at hu
        cases hd : l[i]? with
        | none => rw [hd] at hu; cases hu
        | some y => rw [hd] at hu; exact ⟨y, rfl, (Option.some.inj hu).symm⟩
      subst hux
      have HCE := Lib.hid (fun (W : World) (b : Below w.heap.size w W) => (b.cell (p := ad.add i) (by rw [block_of_add]; exact hadl)).trans hcell)
      have c6 := HCE.out _ bw
      have hx256 := HLX.out x (List.mem_of_getElem? hx)
      obtain ⟨row, hrow⟩ : ∃ row, row = rowAt me l (i + 1) := ⟨_, rfl⟩
      have hrs := row_succ (me := me) hx
      have HH := Lib.hid (theard_any q bw.size x)
      have HXX := Lib.hid (HX2.out (rowAt me l i) x)
      rw [← hrs, ← hrow] at HXX
      rw [← hrs, ← hrow] at HH
      have HROW := Lib.hid hrow
      have HQ := Lib.hid q
      have HI := Lib.hid hi
      have hi100 : (i : Int) < 100 := by have := HM.out.2; omega
      obtain ⟨p, hp⟩ : ∃ p, p = pickN me c row := ⟨_, rfl⟩
      have hX := HX.out row
      have HPW := Lib.hid (HPK.out row)
      rw [← hp] at hX HXX HPW
      obtain ⟨x1, x2, x3, x4, x5, x6⟩ := hX
      have H1 := Lib.hid (fun W => without_any p c x5 HC.out W)
      rw [x1] at H1
      have H2 := Lib.hid (fun W => major_any c p HC.out x5 W)
      rw [x2] at H2
      have H3 := Lib.hid (fun W => both_any p f x5 HF.out.2.2 W)
      have H4 := Lib.hid (fun W => has_b p me x5 (by have := HM.out.1; omega) W)
      rw [x4] at H4
      obtain ⟨bb, hbb⟩ : ∃ bb, bb = bothN p f := ⟨_, rfl⟩
      rw [← hbb] at H3 x3
      have hbz : ((bb : Int) == 0) = false := beq_eq_false_iff_ne.2 (by omega)
      have H6 := Lib.hid x6
      have H5 := Lib.hid x5
      have HHC := Lib.hid (fun W => has_b c x HC.out hx256 W)
      have HHP := Lib.hid (fun W => has_b p x x5 hx256 W)
      clear x1 x2 x3 x4 x5 x6 hbb hp hrs hrow hx hu hcell q hi h4 hx256
      go_wp2_with fail
      refine HH.out.mono ?_; rintro e w3 hret
      obtain ⟨rfl, v3, q3, s3⟩ := hret
      have bw := HQ.out.bw q3 s3 bw (Nat.le_refl _)
      have HPQ := Lib.hid (HPW.out _ _ _ _ q3)
      have HQ3 := Lib.hid q3
      clear HH q3 s3 HQ HPW c6
      go_wp2_with fail
      refine HPQ.out.mono ?_; rintro e w4 ⟨rfl, B4⟩
      have bw := bw.trans (B4.mono bw.size)
      have HQ4 := Lib.hid (HQ3.out.below B4)
      clear HPQ HQ3 B4
      go_wp2_with fail
      refine (H1.out _).mono ?_; rintro e w5 ⟨rfl, rfl⟩
      go_wp2_with fail
      refine (H2.out _).mono ?_; rintro e w5 ⟨rfl, rfl⟩
      go_wp2_with fail
      refine (H3.out _).mono ?_; rintro e w5 ⟨rfl, rfl⟩
      go_wp2_with fail
      refine (HHM.out _).mono ?_; rintro e w5 ⟨rfl, B5⟩
      have bw := bw.trans (B5.mono bw.size)
      have HQ5 := Lib.hid (HQ4.out.below B5)
      clear HQ4 B5
      go_wp2_with fail
      refine (H4.out _).mono ?_; rintro e w6 ⟨rfl, B6⟩
      have bw := bw.trans (B6.mono bw.size)
      have HQ6 := Lib.hid (HQ5.out.below B6)
      clear HQ5 B6 H1 H2 H3 H4 hbz
      go_wp2_with fail
      have HB6 := Lib.hid bw
      have hbz := Below.refl w6.heap.size w6
      clear bw
      go_loopg [13] 7 (fun gk2 v13 wr => ∃ (j : Nat), j + gk2 = 7 ∧ v13 = .int .u8 (j : Int) ∧ Below w6.heap.size w6 wr)
      case atStart => exact ⟨0, by omega, rfl, hbz⟩
      case round =>
        clear hbz
        obtain ⟨j, hj, rfl, bi⟩ := hrel
        by_cases h5 : j < 7
        · have hk5 : (j : Int) < 7 := by omega
          have HA := Lib.hid (has_b p j H5.out (by omega) wr)
          have H6j := H6.out j h5
          have HJ := Lib.hid hj
          cases hpj : hasB p j
          · rw [hpj] at HA
            clear H6j hpj hj h5
            go_wp2_with fail
            refine HA.out.mono ?_; rintro e w7 ⟨rfl, B7⟩
            have bi := bi.trans (B7.mono bi.size)
            clear B7 HA
            go_wp2_with fail
            go_roundg (7 - (j + 1))
            case measure => have := HJ.out; omega
            case rel => exact ⟨j + 1, by have := HJ.out; omega, by go_num, bi⟩
          · rw [hpj] at HA
            have hmf := H6j hpj
            obtain ⟨pw, hpw⟩ : ∃ pw, pw = withoutN p (ofN [j]) := ⟨_, rfl⟩
            have HWO := Lib.hid (fun W => without_any p (ofN [j]) H5.out (by have := of_lt [j]; omega) W)
            rw [← hpw] at HWO hmf
            have HMJ := Lib.hid (fun W => major_any c pw HC.out (by rw [hpw]; have := without_lt p (ofN [j]); omega) W)
            rw [hmf] at HMJ
            have HOF := Lib.hid (fun W : World => of_b [j] (by simp; omega) (by simp) W)
            clear H6j hpj hmf hpw hj h5
            go_wp2_with fail
            refine HA.out.mono ?_; rintro e w7 ⟨rfl, B7⟩
            have bi := bi.trans (B7.mono bi.size)
            clear B7 HA
            have HOF7 := Lib.hid (HOF.out w7)
            clear HOF
            go_wp2_with fail
            refine HOF7.out.mono ?_; rintro e w8 ⟨rfl, B8⟩
            have bi := bi.trans (B8.mono bi.size)
            clear B8 HOF7
            go_wp2_with fail
            refine (HWO.out _).mono ?_; rintro e w9 ⟨rfl, rfl⟩
            go_wp2_with fail
            refine (HMJ.out _).mono ?_; rintro e w9 ⟨rfl, rfl⟩
            go_wp2_with fail
            go_roundg (7 - (j + 1))
            case measure => have := HJ.out; omega
            case rel => exact ⟨j + 1, by have := HJ.out; omega, by go_num, bi⟩
        · have hk5 : ¬ (j : Int) < 7 := by omega
          have HQ7 := Lib.hid (HQ6.out.below bi)
          have bw := HB6.out.trans (bi.mono HB6.out.size)
          rw [HROW.out] at HQ7
          clear HQ6 HB6 bi h5 hj
          by_cases h6 : 1 < lc
          · have h6i : (1 : Int) < (lc : Int) := by omega
            have c7 := HCE.out _ bw
            cases hcx : hasB c x
            · rw [hcx] at HHC
              clear hcx HXX h6
              go_wp2_with fail
              refine (HLEN.out _).mono ?_; rintro e w7 ⟨rfl, rfl⟩
              go_wp2_with fail
              refine (HHC.out _).mono ?_; rintro e w7 ⟨rfl, B7⟩
              have bw := bw.trans (B7.mono bw.size)
              have HQ8 := Lib.hid (HQ7.out.below B7)
              clear HQ7 B7 c7
              go_wp2_with fail
              go_roundg (n - (i + 1))
              case measure => have := HI.out; omega
              case rel => exact ⟨i + 1, v3, by have := HI.out; omega, by go_num, HQ8.out, bw⟩
            · rw [hcx] at HHC
              rw [HXX.out h6 hcx] at HHP
              clear hcx HXX h6
              go_wp2_with fail
              refine (HLEN.out _).mono ?_; rintro e w7 ⟨rfl, rfl⟩
              go_wp2_with fail
              refine (HHC.out _).mono ?_; rintro e w7 ⟨rfl, B7⟩
              have bw := bw.trans (B7.mono bw.size)
              have HQ8 := Lib.hid (HQ7.out.below B7)
              have c8 := HCE.out _ bw
              clear HQ7 B7 c7
              go_wp2_with fail
              refine (HHP.out _).mono ?_; rintro e w8 ⟨rfl, B8⟩
              have bw := bw.trans (B8.mono bw.size)
              have HQ9 := Lib.hid (HQ8.out.below B8)
              clear HQ8 B8 c8
              go_wp2_with fail
              go_roundg (n - (i + 1))
              case measure => have := HI.out; omega
              case rel => exact ⟨i + 1, v3, by have := HI.out; omega, by go_num, HQ9.out, bw⟩
          · have h6i : ¬ (1 : Int) < (lc : Int) := by omega
            clear HXX h6
            go_wp2_with fail
            refine (HLEN.out _).mono ?_; rintro e w7 ⟨rfl, rfl⟩
            go_wp2_with fail
            go_roundg (n - (i + 1))
            case measure => have := HI.out; omega
            case rel => exact ⟨i + 1, v3, by have := HI.out; omega, by go_num, HQ7.out, bw⟩
    · have hk4 : ¬ (i : Int) < (n : Int) := by omega
      clear q
      go_wp2_with fail
      refine (HMF.out _).mono ?_; rintro e w2 ⟨rfl, rfl⟩
      go_wp2_with fail
      refine (HLF.out _).mono ?_; rintro e w2 ⟨rfl, rfl⟩
      go_wp2_with fail
      refine (HNC.out _).mono ?_; rintro e w2 ⟨rfl, rfl⟩
      go_wp2_with fail
      refine (wakes_any _).mono ?_; rintro e w2 ⟨rfl, B2⟩
      have bz := bw.trans (B2.mono bw.size)
      go_wp2_with fail
      go_ret
      exact ⟨rfl, bz⟩
end Go.Proofs.Ytbamfnlgapchkaa.Thr
