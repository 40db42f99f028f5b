/- Package thrift, walked: Pick. Conditions: the memory lies in memory of its own. -/
import Derived.Test.YtbamfnlgapchkaaThA
import Derived.Test.YtbamfnlgapchkaaChSpanL
import Derived.Shelf.RegionOpen
namespace Go.Proofs.Ytbamfnlgapchkaa.Thr
open Go Go.RowKit Mem DrawInv Chn

attribute [local go_sem] Oper.semAt_some
set_option linter.unusedVariables false in
/-- Ranges over the iterator that ahead hands back. -/
theorem ahead_stops (n ga g me cf bc bm : Nat) (row : List Nat) (hme : me < 7) (hrow : ∀ x ∈ row, x < 7) (hrl : row.length ≤ 100) (hcf : cf < 256) (A : Option Addr) (nr c : Nat) (w0 : World)
    (cg0 : w0.cell? ⟨g, 0, none⟩ = some (.int .u8 (me : Int))) (cg1 : w0.cell? ⟨g, 1, none⟩ = some (.slice A nr c)) (hlr : Lst ga w0 A nr row) (cbc : w0.cell? ⟨bc, 0, none⟩ = some (.int .u8 (cf : Int))) (cbm : w0.cell? ⟨bm, 0, none⟩ = some (.pointer (some ⟨g, 0, none⟩)))
    (hg : g ≠ ga) (hbc : bc ≠ ga) (hbm : bm ≠ ga) (hW : ga < w0.heap.size) :
    SeqStopsB Fence.wide n Try.prog 90 #[] #[.pointer (some ⟨bc, 0, none⟩), .pointer (some ⟨bm, 0, none⟩)] (fun x : Fin 256 => #[Value.int .u8 (x.val : Int)]) (KpC ga) (fun xs => xs.map Fin.val = outT (listN cf) (pfxT me row (listN cf) 3)) (fun pre => pre.map Fin.val <+: outT (listN cf) (pfxT me row (listN cf) 3)) 7 w0 := by
  intro l J Jx W hb hJ _ hY h0
  have h := ahead_in n ga g me cf bc bm row hme hrow hrl hcf A nr c w0 cg0 cg1 hlr cbc cbm hg hbc hbm l (fun pre X => ∃ p : List (Fin 256), p.map Fin.val = pre ∧ J p X) (fun pre X => ∃ p : List (Fin 256), p.map Fin.val = pre ∧ Jx p X) W (KpC.of_below hb) (Nat.lt_of_lt_of_le hW hb.size)
    (fun X Y pre ⟨p, hp, hx⟩ hXY => ⟨p, hp, hJ p X Y none hx (only_of_below hXY none) (fun r e => by cases e)⟩)
    (fun pre x W1 hx ⟨p, hp, hJp⟩ hpf => by
      have hx' : x < 256 := by omega
      have hlen : p.length < 7 := by
        have h1 := hpf.length_le
        have h2 := out_len cf (pfxT me row (listN cf) 3)
        rw [List.length_append, ← hp, List.length_map, List.length_singleton] at h1
        omega
      have hy := hY p ⟨x, hx'⟩ W1 hJp hlen
      obtain ⟨fn, tmps, assign, body, hr, hR⟩ := hy
      refine ⟨fn, tmps, assign, body, hr, hR.mono ?_⟩
      rintro e W' (⟨he, h4, h5⟩ | ⟨he, h4⟩)
      · exact .inl ⟨he, ⟨p ++ [⟨x, hx'⟩], by rw [List.map_append, hp]; rfl, h4⟩, h5⟩
      · exact .inr ⟨he, _, by rw [List.map_append, hp]; rfl, h4⟩)
    ⟨[], rfl, h0⟩
  have h2 : CallsIn Fence.wide n Try.prog 90 #[.func (.yield l) #[] #[], .pointer (some ⟨bc, 0, none⟩), .pointer (some ⟨bm, 0, none⟩)] W (fun e W' => (∃ v, e = .returned v) ∧ ((∃ xs : List (Fin 256), xs.map Fin.val = outT (listN cf) (pfxT me row (listN cf) 3) ∧ J xs W') ∨ (∃ pre : List (Fin 256), pre.map Fin.val <+: outT (listN cf) (pfxT me row (listN cf) 3) ∧ Jx pre W'))) := h.mono (by
    rintro e W' ⟨hv, (⟨xs, rfl, p, hp, hx⟩ | ⟨pre, hpf, p, hp, hx⟩)⟩
    · exact ⟨hv, .inl ⟨p, hp, hx⟩⟩
    · exact ⟨hv, .inr ⟨p, by rw [hp]; exact hpf, hx⟩⟩)
  exact h2
def sN (pre : List (Fin 256)) : Nat := setN (pre.map Fin.val)
theorem sN_lt (pre : List (Fin 256)) : sN pre < 128 := set_lt _
theorem sN_snoc (pre : List (Fin 256)) (x : Fin 256) : withN (sN pre) (ofN [x.val]) = sN (pre ++ [x]) := by unfold sN; rw [set_snoc, List.map_append]; rfl
theorem len_one_more (s m : Nat) : lenN (withN s (ofN [m])) ≤ lenN s + 1 := by
  have h1 := alg_sum s (ofN [m])
  have h2 := len_one m
  rw [of_one] at h1 ⊢
  omega
/-- What Pick holds between two rounds; where it leaves off. -/
def PickI (w : World) (ga bc cf : Nat) (pre : List (Fin 256)) (W : World) : Prop :=
  (Boxed W ga 27 (.int .u8 (sN pre : Int)) ∧ (Boxed W bc 27 (.int .u8 (cf : Int)) ∧ Below w.heap.size w W)) ∧ lenN (sN pre) ≤ needN cf
def PickX (w : World) (ga bc cf : Nat) (c : Code) (pre : List (Fin 256)) (W : World) : Prop :=
  ∃ p : List (Fin 256), ∃ x : Fin 256, pre = p ++ [x] ∧ c = .exit 0 ∧ needN cf ≤ lenN (sN p) ∧ PickI w ga bc cf p W
theorem pickI_own (w W0 : World) (ga bc cf : Nat) (hB : w.heap.size ≤ W0.heap.size) : OwnFrom W0.heap.size (PickI w ga bc cf) :=
  OwnFrom.and (OwnFrom.and (Own.from (boxed_own ga 27 (fun pre : List (Fin 256) => Value.int .u8 (sN pre : Int))) _) (OwnFrom.and (Own.from (boxed_own bc 27 (fun _ => Value.int .u8 (cf : Int))) _) (ownFrom_below (Nat.le_refl _) hB))) (ownFrom_pure _ (fun pre : List (Fin 256) => lenN (sN pre) ≤ needN cf))
theorem pickX_own (w W0 : World) (ga bc cf : Nat) (hB : w.heap.size ≤ W0.heap.size) (c : Code) : OwnFrom W0.heap.size (PickX w ga bc cf c) := by
  rintro s X Y row ⟨p, x, h1, h2, h3, h4⟩ hg hr
  exact ⟨p, x, h1, h2, h3, pickI_own w W0 ga bc cf hB p X Y row h4 hg hr⟩
theorem tpick_nil (cf : Nat) (w : World) : Calls Try.prog 37 #[.pointer none, .int .u8 (cf : Int)] w fun e w' => e = .returned (.int .u8 0) ∧ Below w.heap.size w w' := by
  have bw : Below w.heap.size w (w.alloc (.cells #[.int .u8 (cf : Int)] 27)) := (Below.refl _ w).alloc (Nat.le_refl _) _
  refine (callsIn_wide (n := 5)).1 ?_
  refine callsIn_of_wp_marks Try.func37 rfl trivial ?_ rfl
  simp only [Try.ntmps37, List.size_toArray, List.length_cons, List.length_nil, Nat.reduceAdd, Nat.reduceSub, Array.replicate_succ, Array.replicate_zero, List.push_toArray, List.append_toArray, List.nil_append, List.cons_append]
  gi_wp2
  exact ⟨_, results_tmp rfl _ _ _, rfl, bw⟩
set_option linter.unusedVariables false in
set_option maxRecDepth 100000 in
set_option maxHeartbeats 2000000 in
theorem tpick_any {B g me : Nat} {row : List Nat} {v : Value} {w : World} (q : ThS B g me row v w) (hme : me < 7) (cf : Nat) (hcf : cf < 256) : Calls Try.prog 37 #[.pointer (some ⟨g, 0, none⟩), .int .u8 (cf : Int)] w fun e w' => e = .returned (.int .u8 ((setN ((outT (listN cf) (allT me row cf)).take (needN cf)) : Nat) : Int)) ∧ Below w.heap.size w w' := by
  have hgl := q.hg.lt
  have bn : Below w.heap.size w (w.alloc (.cells #[.int .u8 (cf : Int)] 27)) := (Below.refl _ w).alloc (Nat.le_refl _) _
  have b0 : Below w.heap.size w ((w.alloc (.cells #[.int .u8 (cf : Int)] 27)).alloc (.cells #[.int .u8 0] 27)) := bn.alloc (by simp) _
  have k0 := (Boxed.new w 27 (.int .u8 (cf : Int))).alloc (.cells #[.int .u8 0] 27)
  have k1 := Boxed.new (w.alloc (.cells #[.int .u8 (cf : Int)] 27)) 27 (.int .u8 0)
  rw [World.size_alloc] at k1
  have c0 := k0.cell
  have HK := Lib.hid (ahead_any g cf ((w.alloc (.cells #[.int .u8 (cf : Int)] 27)).alloc (.cells #[.int .u8 0] 27)))
  have HQ := Lib.hid q
  have HM := Lib.hid hme
  have HCF := Lib.hid hcf
  obtain ⟨T, hT⟩ : ∃ T, T = outT (listN cf) (allT me row cf) := ⟨_, rfl⟩
  have hTL : T.length ≤ 7 := by rw [hT]; exact out_len cf _
  have hTN : T.Nodup := by rw [hT]; exact out_nodup _ _
  have hT7 : ∀ x ∈ T, x < 7 := by rw [hT]; exact fun x hx => list_lt7 cf x (out_sub _ _ x hx)
  rw [← hT]
  have HT := Lib.hid hT
  have HTF := Lib.hid (And.intro hTL (And.intro hTN hT7))
  have HAL := Lib.hid (q.ho.lt)
  clear q hme hcf hT hTL hTN hT7
  refine (callsIn_wide (n := 5)).1 ?_
  refine callsIn_of_wp_marks Try.func37 rfl trivial ?_ rfl
  simp only [Try.ntmps37, List.size_toArray, List.length_cons, List.length_nil, Nat.reduceAdd, Nat.reduceSub, Array.replicate_succ, Array.replicate_zero, List.push_toArray, List.append_toArray, List.nil_append, List.cons_append]
  gi_wp2
  refine ⟨trivial, ?_⟩
  refine (callsIn_wide.2 HK.out).mono ?_; rintro e w2 hrr
  obtain ⟨bc, bm, rfl, kf, km, h1, h2, B2⟩ := hrr
  clear HK
  rw [World.size_alloc, World.size_alloc] at h1 h2
  have bw := b0.trans (B2.mono b0.size)
  obtain ⟨ba, hba⟩ : ∃ b, b = w.heap.size := ⟨_, rfl⟩
  obtain ⟨ga, hga⟩ : ∃ b, b = w.heap.size + 1 := ⟨_, rfl⟩
  have kA : Boxed w2 ba 27 (.int .u8 (cf : Int)) := by rw [hba]; exact (B2.block _ (by simp; omega)).trans k0
  have kS : Boxed w2 ga 27 (.int .u8 0) := by rw [hga]; exact (B2.block _ (by simp)).trans k1
  have hq2 := HQ.out.below bw
  have hsz : ga < w2.heap.size := kS.lt
  have hfn : ∀ W : World, (binOp .eql 119 (.func (.func 90) #[] #[.pointer (some ⟨bc, 0, none⟩), .pointer (some ⟨bm, 0, none⟩)]) .nilFunc).run Try.prog W = .ok (.bool false) W := fun _ => by kernel_rfl
  obtain ⟨A, cr, hv, _, _⟩ := Byt.own_slice1 hq2.ho
  have hg0 := hq2.hg.cell 0
  have hg1 := hq2.hg.cell 1
  subst hv
  have hl2 := Lst.of_own (ga := ga) hq2.ho (fun he => by have := (HAL.out ga he).2; omega)
  have hrw : row.length ≤ 100 := by have := row_len hq2.ok; omega
  have hst := ahead_stops 4 ga g me cf bc bm row HM.out hq2.ok.lt hrw HCF.out A row.length cr w2 hg0 hg1 hl2 kf.cell km.cell (by omega) (by omega) (by omega) hsz
  have HNE : Hid (ba ≠ ga ∧ w.heap.size ≤ ga ∧ w.heap.size ≤ ba) := by show _ ∧ _; omega
  have HNL : Hid (lenN (sN []) ≤ needN cf) := Nat.le_trans (show lenN (sN []) ≤ 0 by decide) (Nat.zero_le _)
  clear hl2 hrw hg0 hg1 c0 k0 k1 bn b0 B2 hgl HAL
  have HBA := Lib.hid hba.symm
  have HGA := Lib.hid hga.symm
  clear hba hga
  gi_wp2
  rw [HGA.out, HBA.out]
  refine range_bound rfl (by omega) (gf := 90) (bd := #[]) (lb := #[.pointer (some ⟨bc, 0, none⟩), .pointer (some ⟨bm, 0, none⟩)]) rfl trivial (enters_of Try.func90 (by kernel_rfl) rfl)
    hst (fun h k => h.trans k)
    (fun W l o o' hl ho hc _ => KpC.putObj o' ho hc) (Below.refl _ _) (fun _ => rfl)
    (PickI w ga ba cf) (PickX w ga ba cf) (pickI_own w w2 ga ba cf bw.size) (pickX_own w w2 ga ba cf bw.size)
    ⟨⟨kS, kA, bw⟩, HNL.out⟩
    ?a1 ?assign ?body ?done ?stop
  case assign =>
    intro l x W K hK
    gi_wp2
    exact hK
  case body =>
    rintro l pre x W ⟨⟨hA, hC, hB⟩, hle⟩ hlt
    have hfo : Try.prog.follows .mixedOrders = true := by kernel_rfl
    have hslt := sN_lt pre
    have cA := hA.cell
    have cC := hC.cell
    obtain ⟨sv, hsv⟩ : ∃ s, s = sN pre := ⟨_, rfl⟩
    have HSV := Lib.hid hsv
    have HL1 := Lib.hid (fun W' => len_any sv (by rw [hsv]; omega) W')
    have HN1 := Lib.hid (fun W' => need_any cf HCF.out W')
    rw [← hsv] at hA cA hle hslt
    by_cases hnd : needN cf ≤ lenN sv
    · have hndi : ((needN cf : Nat) : Int) ≤ ((lenN sv : Nat) : Int) := by omega
      have HX : Hid (PickX w ga ba cf (.exit 0) (pre ++ [x]) W.drew) := ⟨pre, x, rfl, rfl, by rw [← HSV.out]; exact hnd, ⟨by rw [← HSV.out]; exact hA, hC, hB.drew⟩, by rw [← HSV.out]; exact hle⟩
      have HKO := Lib.hid ((KeepsOthers.drew W).from w2.heap.size)
      generalize needN cf = nd at *
      generalize lenN sv = ln at *
      clear hsv hle hA hC hB hnd hlt
      gi_wp2
      gi_region_with_o (first | (refine ⟨trivial, ?_⟩; gi_at_call 42; refine (CallsIn.inRound l (callsIn_wide.2 (HL1.out _))).mono ?_; rintro e w8 ⟨rfl, rfl⟩) | (refine ⟨trivial, ?_⟩; gi_at_call 48; refine (CallsIn.inRound l (callsIn_wide.2 (HN1.out _))).mono ?_; rintro e w8 ⟨rfl, rfl⟩))
      all_goals
        gi_wp2
        exact ⟨HKO.out, HX.out⟩
    · have hndi : ¬ ((needN cf : Nat) : Int) ≤ ((lenN sv : Nat) : Int) := by omega
      have hgl := hA.lt
      have fA := hA.frozen
      obtain ⟨wB, hwB⟩ : ∃ wB, wB = (W.alloc (.cells #[.int .u8 (x.val : Int)] 5)).drew.drew := ⟨_, rfl⟩
      have b1 : Below W.heap.size W wB := by rw [hwB]; exact ((Below.refl _ W).alloc (Nat.le_refl _) _).drew.drew
      have hAB : Boxed wB ga 27 (.int .u8 (sv : Int)) := (b1.block _ hgl).trans hA
      have cAB := hAB.cell
      have fAB := hAB.frozen
      obtain ⟨sw, hsw⟩ : ∃ s, s = withN sv (ofN [x.val]) := ⟨_, rfl⟩
      have HSW : Hid (sw = sN (pre ++ [x])) := by show _ = _; rw [hsw, hsv]; exact sN_snoc pre x
      have HLE : Hid (lenN (sN (pre ++ [x])) ≤ needN cf) := by
        show _ ≤ _
        rw [← HSW.out, hsw]
        have := len_one_more sv x.val
        omega
      have HOF : Hid (Calls Try.prog 47 #[.slice (some ⟨W.heap.size, 0, none⟩) 1 1] wB fun e w' => e = .returned (.int .u8 ((ofN [x.val] : Nat) : Int)) ∧ wB = w') := by rw [hwB]; exact of_any (some ⟨W.heap.size, 0, none⟩) 1 1 [x.val] rfl (by simp) (W.drew.drew.alloc (.cells #[.int .u8 (x.val : Int)] 5)) (nums_of W.drew.drew _ rfl [_] 5 [x.val] rfl) (by unfold maxLen; simp)
      have HWI := Lib.hid (fun W0 : World => with_any sv (ofN [x.val]) (by omega) (by have := of_lt [x.val]; omega) W0)
      rw [← hsw] at HWI
      have hA3 : Boxed (((W.setCell ⟨ga, 0, none⟩ (.int .u8 (sw : Int))).alloc (.cells #[.int .u8 (x.val : Int)] 5)).drew.drew) ga 27 (.int .u8 (sw : Int)) := (hA.set (.int .u8 (sw : Int))).alloc (.cells #[.int .u8 (x.val : Int)] 5)
      have hC2 : Boxed (W.setCell ⟨ga, 0, none⟩ (.int .u8 (sw : Int))) ba 27 (.int .u8 (cf : Int)) := (Below.heap_setCell W ⟨ga, 0, none⟩ _ ba (show ba ≠ ga from HNE.out.1)).trans hC
      have hC3 : Boxed (((W.setCell ⟨ga, 0, none⟩ (.int .u8 (sw : Int))).alloc (.cells #[.int .u8 (x.val : Int)] 5)).drew.drew) ba 27 (.int .u8 (cf : Int)) := hC2.alloc (.cells #[.int .u8 (x.val : Int)] 5)
      have hba : Below (W.setCell ⟨ga, 0, none⟩ (.int .u8 (sw : Int))).heap.size (W.setCell ⟨ga, 0, none⟩ (.int .u8 (sw : Int))) (((W.setCell ⟨ga, 0, none⟩ (.int .u8 (sw : Int))).alloc (.cells #[.int .u8 (x.val : Int)] 5)).drew.drew) := ((Below.refl _ _).alloc (Nat.le_refl _) _).drew.drew
      have hbs := hB.setCell (p := ⟨ga, 0, none⟩) HNE.out.2.1 (.int .u8 (sw : Int))
      have hB3 := hbs.trans (hba.mono hbs.size)
      have hKC : KpC ga W (((W.setCell ⟨ga, 0, none⟩ (.int .u8 (sw : Int))).alloc (.cells #[.int .u8 (x.val : Int)] 5)).drew.drew) := (KpC.set W _).trans (KpC.of_below hba)
      have hKF : KeepsFrom w2.heap.size W (((W.setCell ⟨ga, 0, none⟩ (.int .u8 (sw : Int))).alloc (.cells #[.int .u8 (x.val : Int)] 5)).drew.drew) := ((KeepsOthers.setCell W _ _).trans (((KeepsOthers.alloc _ _).trans (KeepsOthers.drew _)).trans (KeepsOthers.drew _))).from _
      have HFI : Hid (ownPostG w2.heap.size (KpC ga) (PickI w ga ba cf) (PickX w ga ba cf) (pre ++ [x]) W .normal ⟨#[], []⟩ (((W.setCell ⟨ga, 0, none⟩ (.int .u8 (sw : Int))).alloc (.cells #[.int .u8 (x.val : Int)] 5)).drew.drew)) := ⟨hKF, hKC, ⟨by rw [← HSW.out]; exact hA3, hC3, hB3⟩, HLE.out⟩
      generalize needN cf = nd at *
      generalize lenN sv = ln at *
      generalize x.val = xv at *
      clear hsv hle hA hC hB hnd hlt hsw hA3 hC3 hC2 hba hbs hB3 hKC hKF HLE HSW b1 hAB
      gi_wp2
      gi_region_with_o (first | (refine ⟨trivial, ?_⟩; gi_at_call 42; refine (CallsIn.inRound l (callsIn_wide.2 (HL1.out _))).mono ?_; rintro e w8 ⟨rfl, rfl⟩) | (refine ⟨trivial, ?_⟩; gi_at_call 48; refine (CallsIn.inRound l (callsIn_wide.2 (HN1.out _))).mono ?_; rintro e w8 ⟨rfl, rfl⟩))
      all_goals
        clear HL1 HN1
        gi_wp2
        gi_region_with_o (first | (refine ⟨trivial, ?_⟩; gi_at_call 47; rw [← hwB]; refine (CallsIn.inRound l (callsIn_wide.2 HOF.out)).mono ?_; rintro e w8 ⟨rfl, rfl⟩) | (refine ⟨trivial, ?_⟩; gi_at_call 41; refine (CallsIn.inRound l (callsIn_wide.2 (HWI.out _))).mono ?_; rintro e w8 ⟨rfl, rfl⟩))
        all_goals
          gi_wp2
          exact HFI.out
  case done =>
    rintro D ys W hD hys ⟨⟨hA, hC, hB⟩, hle⟩ hK
    have cA := hA.cell
    have hsn : sN ys = setN T := by unfold sN; rw [hys, HT.out]; rfl
    have htk : T.take (needN cf) = T := by
      refine List.take_of_length_le ?_
      rw [← len_set HTF.out.2.1 HTF.out.2.2, ← hsn]; exact hle
    have hb := hB.trans (belowK_b (w := w) (Nat.le_refl _) W D (.deferred (some [])) (.deferred none) (by have := bw.size; omega) hK rfl rfl)
    rw [hsn] at cA
    have HTK := Lib.hid htk
    clear hys hsn hA htk hle
    gi_wp2
    exact ⟨by simp, .inl ⟨_, _, rfl, run_takeDeferred hK, _, results_tmp rfl _ _ _, by rw [HTK.out]; rfl, hb⟩⟩
  case stop =>
    rintro D c pre W hD hpre ⟨p, x, hpx, rfl, hnd, ⟨hA, hC, hB⟩, hle⟩ hK
    have cA := hA.cell
    have hpf : p.map Fin.val <+: T := by
      rw [HT.out]
      refine List.IsPrefix.trans ?_ hpre
      rw [hpx, List.map_append]
      exact List.prefix_append _ _
    have hpn : (p.map Fin.val).length = needN cf := by
      have h1 : lenN (sN p) = (p.map Fin.val).length := len_set (HTF.out.2.1.sublist hpf.sublist) (fun y hy => HTF.out.2.2 y (hpf.subset hy))
      omega
    have htk : setN (T.take (needN cf)) = sN p := by rw [← hpn, ← List.prefix_iff_eq_take.1 hpf]; rfl
    have hb := hB.trans (belowK_b (w := w) (Nat.le_refl _) W D (.deferred (some [])) (.deferred none) (by have := bw.size; omega) hK rfl rfl)
    rw [← htk] at cA
    clear hpf hpn htk hpre hpx hA hC hB hnd hle
    gi_wp2
    exact ⟨by simp, .inl ⟨_, _, rfl, run_takeDeferred hK, _, results_tmp rfl _ _ _, rfl, hb⟩⟩
end Go.Proofs.Ytbamfnlgapchkaa.Thr
