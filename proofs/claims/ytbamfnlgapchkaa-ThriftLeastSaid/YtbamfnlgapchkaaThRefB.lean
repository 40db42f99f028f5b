/- The reference of a memory of who was heard of, walked: Pick. Conditions: the lists can be read. -/
import Derived.Test.YtbamfnlgapchkaaThRef
namespace Go.Proofs.Ytbamfnlgapchkaa.Thr
open Go.RowKit Mem DrawInv Chn

set_option linter.unusedVariables false in
theorem pickR_step (l : List Nat) : ∀ (xs out : List Nat) (x : Nat), pickR l (xs ++ [x]) out = if hasL l x = true ∧ hasL (pickR l xs out) x = false ∧ majorL l (pickR l xs out) = false then pickR l xs out ++ [x] else pickR l xs out
  | [], out, x => rfl
  | y :: xs, out, x => pickR_step l xs _ x
theorem pickR_len (l : List Nat) : ∀ (xs out : List Nat), (pickR l xs out).length ≤ out.length + xs.length
  | [], out => by simp [pickR]
  | y :: xs, out => by
    unfold pickR
    refine Nat.le_trans (pickR_len l xs _) ?_
    split <;> simp <;> omega
set_option linter.unusedVariables false in
set_option maxRecDepth 100000 in
set_option maxHeartbeats 2000000 in
theorem rpick_any (me cf : Nat) (hcf : cf < 256) (l : List Nat) (n : Nat) (hn : l.length = n) (hn7 : n ≤ 100) (A : Option Addr) (c : Nat) (w : World) (hr : Reads w w.heap.size 1 A n (l.map u8v)) : Calls Try.prog 38 #[.int .u8 (me : Int), .slice A n c, .int .u8 (cf : Int)] w fun e w' => e = .returned (.int .u8 (setN (pickR (listN cf) (allT me l cf) []) : Nat)) ∧ Below w.heap.size w w' := by
  have hl0 := list_any cf hcf w
  have hd7 : (listN cf).length ≤ 7 := listTo_len cf 7
  obtain ⟨d, hd⟩ : ∃ d, d = (listN cf).length := ⟨_, rfl⟩
  obtain ⟨L, hL⟩ : ∃ L, L = listN cf := ⟨_, rfl⟩
  unfold RetNums at hl0
  unfold allT
  rw [← hL] at hl0 hd hd7 ⊢
  rw [← hd] at hl0 hd7
  have HL := Lib.hid hl0
  have HD := Lib.hid hd
  have HR := Lib.hid hr
  have HN := Lib.hid hn
  clear hl0 hd hL hr hn
  go_enter Try.func38, Try.ntmps38
  go_wp2_with fail
  refine HL.out.mono ?_; rintro e w2 ⟨A1, c1, rfl, hr1, B1⟩
  have own0 : (w2.alloc (.cells #[.int .u8 (me : Int)] 5)).ownsRow w2.heap.size 5 1 (.slice (some ⟨w2.heap.size, 0, none⟩) 1 1) 1 ([me].map u8v) := own1_of_blk (Blk.new w2 5 #[.int .u8 (me : Int)]) (Nat.le_refl _) rfl rfl (by unfold maxLen; omega)
  have bz : Below w2.heap.size w2 (w2.alloc (.cells #[.int .u8 (me : Int)] 5)) := (Below.refl _ w2).alloc (Nat.le_refl _) _
  have bwz := (B1.trans (bz.mono B1.size))
  obtain ⟨v3, w3, happ3, ho3, b3, _⟩ := app_b own0 bz.size (by omega) (c := c) (m := n) (((HR.out.below bwz).more bwz.size)) (by omega)
  have bz3 := bz.trans b3
  obtain ⟨v4, w4, happ4, ho4, b4, _⟩ := app_b ho3 bz3.size (by omega) (c := c1) (m := d) ((hr1.below bz3).more bz3.size) (by omega)
  have bz4 := bz3.trans b4
  have bw := B1.trans (bz4.mono B1.size)
  have hr14 := (hr1.below bz4).more bz4.size
  obtain ⟨ns, hns⟩ : ∃ k, k = 1 + n + d := ⟨_, rfl⟩
  have he : me :: (l ++ L) = [me] ++ l ++ L := by simp
  rw [← hns, ← he] at ho4
  obtain ⟨S, hS⟩ : ∃ S, S = me :: (l ++ L) := ⟨_, rfl⟩
  rw [← hS] at ho4
  have HSX := Lib.hid hS
  have hSl : S.length = ns := by rw [hS, hns]; simp [HN.out, ← HD.out]; omega
  have hns1 : ns ≤ 108 := by omega
  obtain ⟨A4, c4, hv4, _, hr4⟩ := Byt.own_slice1 ho4
  subst hv4
  have HS := Lib.hid hr4
  have HSL := Lib.hid hSl
  have H1 := Lib.hid hr14
  clear hr4 hSl hr14 own0 ho3 ho4 b3 b4 bz3 bwz bz hS hns he hr1 HR HL HN
  go_upto_region 4 with (first | refine wpList_run_append (by rfl) (.tmp 14) (.tmp 15) 22 (by rfl) (by rfl) (by rfl) happ3 ?_ | refine wpList_run_append (by rfl) (.tmp 17) (.tmp 18) 22 (by rfl) (by rfl) (by rfl) happ4 ?_)
  clear happ3 happ4 B1
  go_wp2_with fail
  have b0 := Below.refl w4.heap.size w4
  go_loopg [9, 10] ns (fun gk v9 v10 wr => ∃ (i m : Nat) (r : Value), i + gk = ns ∧ v10 = .int .i64 (i : Int) ∧ r = v9 ∧ Hid (m = (pickR L (S.take i) []).length ∧ m ≤ i) ∧ wr.ownsRow w4.heap.size 5 1 r m ((pickR L (S.take i) []).map u8v) ∧ Below w4.heap.size w4 wr)
  case atStart => exact ⟨0, 0, _, by omega, rfl, rfl, ⟨rfl, by omega⟩, World.ownsRow_nil _ _ _ _, b0⟩
  case round =>
    clear b0
    obtain ⟨i, m, r, hi, rfl, rfl, HM, ho, bd⟩ := hrel
    by_cases h4 : i < ns
    · have hk4 : (i : Int) < (ns : Int) := by omega
      obtain ⟨ad, ux, rfl, hadl, hu, hcell⟩ := HS.out.at_ h4
      obtain ⟨x, hx, hux⟩ : ∃ x, S[i]? = some x ∧ ux = .int .u8 (x : Int) := by
        rw [List.getElem?_map] at hu
        cases hd : S[i]? with
        | none => rw [hd] at hu; cases hu
        | some y => rw [hd] at hu; exact ⟨y, rfl, (Option.some.inj hu).symm⟩
      subst hux
      have q0 := (bd.cell (p := ad.add i) (by rw [block_of_add]; exact hadl)).trans hcell
      have HC := Lib.hid (fun (W : World) (b : Below w4.heap.size w4 W) => (b.cell (p := ad.add i) (by rw [block_of_add]; exact hadl)).trans hcell)
      obtain ⟨out, hout⟩ : ∃ o, o = pickR L (S.take i) [] := ⟨_, rfl⟩
      have hst : pickR L (S.take (i + 1)) [] = if hasL L x = true ∧ hasL out x = false ∧ majorL L out = false then out ++ [x] else out := by
        rw [List.take_add_one, hx, hout]
        exact pickR_step L _ [] x
      rw [← hout] at HM ho
      obtain ⟨A5, c5, hv5, _, hr5⟩ := Byt.own_slice1 ho
      subst hv5
      have HH1 := Lib.hid (hasRef_any A1 d c1 L x HD.out (by unfold maxLen; omega) wr (nums_reads (H1.out.below bd)))
      have HH2 := Lib.hid (hasRef_any A5 m c5 out x HM.out.1 (by have := HM.out.2; unfold maxLen; omega) wr (nums_reads hr5))
      have HMJ := Lib.hid (majorRef_any A1 A5 d m c1 c5 L out HD.out HM.out.1 (by omega) (by have := HM.out.2; omega) wr ((H1.out.below bd).more bd.size) hr5)
      generalize hasL L x = y1 at *
      generalize hasL out x = y2 at *
      generalize majorL L out = y3 at *
      clear hu hcell hx hadl hout hr5
      cases y1
      · have HE : Hid (pickR L (S.take (i + 1)) [] = out) := by show _ = _; rw [hst, if_neg (by simp)]
        clear hst HH2 HMJ
        go_wp2_with fail
        refine HH1.out.mono ?_; rintro e w9 ⟨rfl, rfl⟩
        go_wp2_with fail
        go_roundg (ns - (i + 1))
        case measure => omega
        case rel => exact ⟨i + 1, m, _, by omega, by go_num, rfl, by rw [HE.out]; exact ⟨HM.out.1, by have := HM.out.2; omega⟩, by rw [HE.out]; exact ho, bd⟩
      cases y2
      rotate_left
      · have HE : Hid (pickR L (S.take (i + 1)) [] = out) := by show _ = _; rw [hst, if_neg (by simp)]
        clear hst HMJ
        go_wp2_with fail
        refine HH1.out.mono ?_; rintro e w9 ⟨rfl, rfl⟩
        go_wp2_with fail
        refine HH2.out.mono ?_; rintro e w9 ⟨rfl, rfl⟩
        go_wp2_with fail
        go_roundg (ns - (i + 1))
        case measure => omega
        case rel => exact ⟨i + 1, m, _, by omega, by go_num, rfl, by rw [HE.out]; exact ⟨HM.out.1, by have := HM.out.2; omega⟩, by rw [HE.out]; exact ho, bd⟩
      go_wp2_with fail
      refine HH1.out.mono ?_; rintro e w9 ⟨rfl, rfl⟩
      go_wp2_with fail
      refine HH2.out.mono ?_; rintro e w9 ⟨rfl, rfl⟩
      clear HH1 HH2
      go_wp2_with fail
      refine HMJ.out.mono ?_; rintro e w5 ⟨rfl, B5⟩
      have bd5 := bd.trans (B5.mono bd.size)
      have ho := own1_below ho B5 (fun r hr => (ho.lt r hr).2)
      clear B5 HMJ q0 bd
      have q0 := HC.out w5 bd5
      cases y3
      rotate_left
      · have HE : Hid (pickR L (S.take (i + 1)) [] = out) := by show _ = _; rw [hst, if_neg (by simp)]
        clear hst
        go_wp2_with fail
        go_roundg (ns - (i + 1))
        case measure => omega
        case rel => exact ⟨i + 1, m, _, by omega, by go_num, rfl, by rw [HE.out]; exact ⟨HM.out.1, by have := HM.out.2; omega⟩, by rw [HE.out]; exact ho, bd5⟩
      have HE : Hid (pickR L (S.take (i + 1)) [] = out ++ [x]) := by show _ = _; rw [hst, if_pos (by simp)]
      obtain ⟨r', w6, happ, ho2, hb2⟩ := Byt.app_byte ho bd5.size (by have := HM.out.2; omega) x
      have he : (pickR L (S.take (i + 1)) []).map u8v = out.map u8v ++ [.int .u8 (x : Int)] := by rw [HE.out, List.map_append]; rfl
      rw [← he] at ho2
      have HF := Lib.hid (And.intro ho2 (bd5.trans hb2))
      have HM2 : Hid (m + 1 = (pickR L (S.take (i + 1)) []).length ∧ m + 1 ≤ i + 1) := by
        have := HM.out
        exact ⟨by rw [HE.out, List.length_append, ← this.1]; rfl, by omega⟩
      clear he ho ho2 hb2 bd5 hst
      go_wp2_with (refine wpList_run_append (by rfl) (.tmp 47) (.tmp 52) 22 (by rfl) (by rfl) (by rfl) happ ?_)
      go_roundg (ns - (i + 1))
      case measure => omega
      case rel => exact ⟨i + 1, m + 1, r', by omega, by go_num, rfl, HM2.out, HF.out.1, HF.out.2⟩
    · have hk4 : ¬ (i : Int) < (ns : Int) := by omega
      obtain rfl : ns = i := by omega
      rw [List.take_of_length_le (by rw [HSL.out]; exact Nat.le_refl _)] at ho
      have hm := HM.out.1
      rw [List.take_of_length_le (by rw [HSL.out]; exact Nat.le_refl _)] at hm
      obtain ⟨A5, c5, hv5, _, hr5⟩ := Byt.own_slice1 ho
      subst hv5
      have HSR := Lib.hid (setRef_any A5 m c5 _ hm (by have := HM.out.2; unfold maxLen; omega) wr (nums_reads hr5))
      have bz := bw.trans (bd.mono bw.size)
      clear ho hm hr5
      go_wp2_with fail
      refine HSR.out.mono ?_; rintro e w9 ⟨rfl, rfl⟩
      go_wp2_with fail
      go_ret
      exact ⟨by rw [HSX.out]; rfl, bz⟩
end Go.Proofs.Ytbamfnlgapchkaa.Thr
