/- FrameTakes, walked. Conditions: the arguments are of their types. -/
import Derived.Test.YtgbnaifjdfoahaaFrameRef
import Derived.Test.YtgbnaifjdfoahaaResCell
namespace Go.Proofs.Ytgbnaifjdfoahaa.Frame
open Go.RowKit Wire

attribute [local go_sem] Oper.semAt_some

theorem walk_stops (n : Nat) (s : List UInt8) (hs : s.length ≤ 1000000) (w : World) (L : Nat → Prop) (hL : ∀ i, L i → i < w.heap.size) (bs bt : Nat) (hbs : L bs) (hbt : L bt)
    (ks : Boxed w bs 9 (.string ⟨s.toArray⟩)) (kt : Boxed w bt 112 (.func (.func 72) #[] #[])) :
    SeqStopsF Fence.wide n Try.prog 85 #[] #[.pointer (some ⟨bs, 0, none⟩), .pointer (some ⟨bt, 0, none⟩)] encF (KpL L) (fun xs => xs = framesOf s) (fun pre => pre <+: framesOf s) (fun A B => KpL L w A ∧ B = A) w :=
  frames_stops n s hs w L hL bs bt 72 #[] hbs hbt (enters_of Try.func72 (by kernel_rfl) rfl) ks kt (fun A B => B = A) (fun A _ => stop_walk _ _ _ A)
theorem ownFrom_kpl {β : Type} {L : Nat → Prop} {w : World} (hL : ∀ i, L i → i < w.heap.size) : OwnFrom w.heap.size (fun (_ : β) W => KpL L w W ∧ w.heap.size ≤ W.heap.size) :=
  fun _ X Y row hs hg hr => ⟨fun i hi => (hg.block i (Nat.lt_of_lt_of_le (hL i hi) hs.2) (fun e => by have := (hr i e.symm).1; have := hL i hi; omega)).trans (hs.1 i hi), Nat.le_trans hs.2 hg.size⟩
def placeOf (pre : List (Nat × List UInt8)) : Nat := (pre.map fun y => (frameB y.2).length).sum
theorem place_snoc (pre : List (Nat × List UInt8)) (x : Nat × List UInt8) : placeOf (pre ++ [x]) = placeOf pre + (frameB x.2).length := by
  unfold placeOf; rw [List.map_append, List.sum_append]; simp
/-- What holds between two rounds: the boxes of the place and of the count. -/
def TkI (w W0 : World) (L : Nat → Prop) (bp bi : Nat) (pre : List (Nat × List UInt8)) (W : World) : Prop :=
  (KpL L W0 W ∧ W0.heap.size ≤ W.heap.size) ∧ (Boxed W bp 3 (.int .i64 (placeOf pre : Int)) ∧ (Boxed W bi 3 (.int .i64 (pre.length : Int)) ∧ Below w.heap.size w W))
theorem tk_own (w W0 : World) (L : Nat → Prop) (hL : ∀ i, L i → i < W0.heap.size) (bp bi : Nat) (hB : w.heap.size ≤ W0.heap.size) : OwnFrom W0.heap.size (TkI w W0 L bp bi) :=
  OwnFrom.and (ownFrom_kpl hL) (OwnFrom.and (Own.from (boxed_own bp 3 (fun pre : List (Nat × List UInt8) => Value.int .i64 (placeOf pre : Int))) _) (OwnFrom.and (Own.from (boxed_own bi 3 (fun pre : List (Nat × List UInt8) => Value.int .i64 (pre.length : Int))) _) (ownFrom_below (Nat.le_refl _) hB)))
set_option linter.unusedSimpArgs false in
set_option maxRecDepth 100000 in
set_option maxHeartbeats 8000000 in
theorem ftakes_any (s : List UInt8) (hs : s.length ≤ 9223372036854775807) (w : World) : Calls Try.prog 9 #[.string ⟨s.toArray⟩] w fun e w' => e = .returned (.bool true) ∧ Below w.heap.size w w' := by
  have hsz := size_str s
  have b0 := below_one w (.cells #[.bool false] 4)
  have k0 := Boxed.new w 4 (.bool false)
  refine (callsIn_wide (n := 5)).1 ?_
  refine callsIn_of_wp_marks Try.func9 rfl trivial ?_ rfl
  simp only [Try.ntmps9, List.size_toArray, List.length_cons, List.length_nil, Nat.reduceAdd, Nat.reduceSub, Array.replicate_succ, Array.replicate_zero, List.push_toArray, List.append_toArray, List.nil_append, List.cons_append]
  by_cases h6 : 6000 < s.length
  · have h62 : (6000 : Int) < (s.length : Int) := by omega
    gi_wp2
    refine ⟨trivial, ?_⟩
    refine (callsIn_wide.2 (wakes3_any _)).mono ?_; rintro e w1 ⟨rfl, B1⟩
    have k1 : Boxed w1 w.heap.size 4 (.bool false) := (B1.block _ (by simp)).trans k0
    have c1 := k1.cell
    have f1 := k1.frozen
    have B01 := (b0.trans (B1.mono b0.size)).setCell (p := ⟨w.heap.size, 0, none⟩) (Nat.le_refl _) (.bool true)
    gi_wp2
    exact ⟨_, results_cell_bool rfl _ _ w.heap.size true rfl (k1.set (.bool true)), rfl, B01⟩
  · have h62 : ¬ (6000 : Int) < (s.length : Int) := by omega
    have HT := Lib.hid (fun W => ftake_any s (by omega) W)
    have HR := Lib.hid (fun W => refTake_any s (by omega) W)
    obtain ⟨a, m, er, htk⟩ : ∃ a m er, takeF s = (a, m, er) := ⟨_, _, _, rfl⟩
    rw [htk] at HT HR
    clear htk
    gi_wp2
    refine ⟨trivial, ?_⟩
    refine (callsIn_wide.2 (HT.out _)).mono ?_; rintro e w1 ⟨rfl, B1⟩
    gi_wp2
    refine ⟨trivial, ?_⟩
    refine (callsIn_wide.2 (HR.out _)).mono ?_; rintro e w2 ⟨rfl, B2⟩
    gi_wp2
    refine ⟨trivial, ?_⟩
    refine (callsIn_wide.2 (split_any s (by omega) _)).mono ?_; rintro e w3 ⟨v3, rfl, own3, B3⟩
    gi_wp2
    refine ⟨trivial, ?_⟩
    refine (callsIn_wide.2 (refSplit_any s (by omega) _)).mono ?_; rintro e w4 ⟨v4, rfl, own4, B4⟩
    obtain ⟨ws, hws, hwl⟩ : ∃ ws, (framesOf s).map Prod.snd = ws ∧ (framesOf s).length = ws.length := ⟨_, rfl, by simp⟩
    rw [hws, hwl] at own3 own4
    obtain ⟨A3, c3, rfl, r3⟩ := own_slice1 own3
    obtain ⟨A4, c4, rfl, r4⟩ := own_slice1 own4
    have b5 := below_one w4 (.cells #[.slice A4 ws.length c4] 59)
    have k5 := Boxed.new w4 59 (.slice A4 ws.length c4)
    have hwn : ws.length ≤ 6000 := by have := frames_len s; omega
    have hsame := same_any ws ws A3 A4 c3 c4 (by omega) (by omega) _ ((r3.below (B4.trans (b5.mono B4.size))).more (Nat.le_trans B4.size b5.size)) ((r4.below b5).more b5.size)
    rw [beq_self_eq_true ws] at hsame
    have HSA := Lib.hid hsame
    have B02 := (b0.trans (B1.mono b0.size)).trans (B2.mono (Nat.le_trans b0.size B1.size))
    have B03 := B02.trans (B3.mono B02.size)
    have B04 := B03.trans (B4.mono B03.size)
    have k4 : Boxed w4 w.heap.size 4 (.bool false) := (((B1.trans (B2.mono B1.size)).trans (B3.mono (Nat.le_trans B1.size B2.size))).trans (B4.mono (Nat.le_trans (Nat.le_trans B1.size B2.size) B3.size)) |>.block _ (by simp)).trans k0
    clear hsame r3 own3 own4 B1 B2 B3 B02 B03 HT HR k0 b0
    gi_wp2
    refine ⟨trivial, ?_⟩
    refine (callsIn_wide.2 HSA.out).mono ?_; rintro e w6 ⟨rfl, B6⟩
    have k6 : Boxed w6 w.heap.size 4 (.bool false) := ((b5.trans (B6.mono b5.size)).block _ k4.lt).trans k4
    have kw6 : Boxed w6 w4.heap.size 59 (.slice A4 ws.length c4) := (B6.block _ (by simp)).trans k5
    have r6 := r4.below (b5.trans (B6.mono b5.size))
    have s6 : w4.heap.size < w6.heap.size := by have := B6.size; simp at this; omega
    have B06 := B04.trans ((b5.trans (B6.mono b5.size)).mono B04.size)
    have s04 := k4.lt
    have hf : ∀ (W : World) (p q : Value), (binOp .eql 68 (.func (.func 85) #[] #[p, q]) .nilFunc).run Try.prog W = .ok (.bool false) W := fun _ _ _ => by kernel_rfl
    clear HSA k4 k5 r4 b5 B6 B4 B04
    gi_wp2
    refine ⟨trivial, ?_⟩
    refine (callsIn_wide.2 (walk_any s _)).mono ?_; rintro e w7 ⟨rfl, rfl⟩
    gi_wp2
    have k := ((((Kg.refl w6).new 3 #[.int .i64 0]).new 3 #[.int .i64 0]).new 9 #[.string ⟨s.toArray⟩]).new 112 #[.func (.func 72) #[] #[]]
    simp only [World.size_alloc, Nat.add_assoc, Nat.reduceAdd] at k
    have hs0 : ((((w6.alloc (.cells #[.int .i64 0] 3)).alloc (.cells #[.int .i64 0] 3)).alloc (.cells #[.string ⟨s.toArray⟩] 9)).alloc (.cells #[.func (.func 72) #[] #[]] 112)).heap.size = w6.heap.size + 4 := by simp
    generalize ((((w6.alloc (.cells #[.int .i64 0] 3)).alloc (.cells #[.int .i64 0] 3)).alloc (.cells #[.string ⟨s.toArray⟩] 9)).alloc (.cells #[.func (.func 72) #[] #[]] 112)) = W0 at *
    have B00 := B06.trans (k.bw.mono B06.size)
    have kp : Boxed W0 w6.heap.size 3 (.int .i64 0) := k.i4
    have ki : Boxed W0 (w6.heap.size + 1) 3 (.int .i64 0) := k.i3
    have ks : Boxed W0 (w6.heap.size + 2) 9 (.string ⟨s.toArray⟩) := k.i2
    have kt : Boxed W0 (w6.heap.size + 3) 112 (.func (.func 72) #[] #[]) := k.i1
    have kr : Boxed W0 w.heap.size 4 (.bool false) := (k.bw.block _ k6.lt).trans k6
    have kw : Boxed W0 w4.heap.size 59 (.slice A4 ws.length c4) := (k.bw.block _ s6).trans kw6
    have r0 := r6.below (k.bw.mono (Nat.le_of_lt s6))
    obtain ⟨L, hLd⟩ : ∃ L : Nat → Prop, L = fun i => i < w6.heap.size + 4 ∧ i ≠ w6.heap.size ∧ i ≠ w6.heap.size + 1 := ⟨_, rfl⟩
    have hL : ∀ i, L i → i < W0.heap.size := by intro i hi; rw [hLd] at hi; obtain ⟨h1, _⟩ := hi; omega
    have hLi : ∀ i, i < w6.heap.size → L i := by intro i hi; rw [hLd]; exact ⟨by omega, by omega, by omega⟩
    have hL2 : L (w6.heap.size + 2) := by rw [hLd]; exact ⟨by omega, by omega, by omega⟩
    have hL3 : L (w6.heap.size + 3) := by rw [hLd]; exact ⟨by omega, by omega, by omega⟩
    have hLn : ∀ i, L i → i ≠ w6.heap.size ∧ i ≠ w6.heap.size + 1 := by intro i hi; rw [hLd] at hi; exact hi.2
    clear hLd k k6 kw6 r6
    refine range_fin rfl (by omega) (gf := 85) (bd := #[]) (lb := #[.pointer (some ⟨w6.heap.size + 2, 0, none⟩), .pointer (some ⟨w6.heap.size + 3, 0, none⟩)]) rfl trivial (enters_of Try.func85 (by kernel_rfl) rfl)
      (walk_stops _ s (by omega) W0 L hL (w6.heap.size + 2) (w6.heap.size + 3) hL2 hL3 ks kt)
      (fun h k => h.t k) (KpL.b hL) (Below.refl _ _) (fun _ => rfl)
      (TkI w W0 L w6.heap.size (w6.heap.size + 1)) (TkI w W0 L w6.heap.size (w6.heap.size + 1)) (tk_own w W0 L hL _ _ B00.size) (fun xs A B _ hA hF => by rw [hF.2]; exact hA)
      (fun xs A B hA hF r o hr ho hc => by rw [hF.2]; exact ho)
      (fun _ _ _ => False) (tk_own w W0 L hL _ _ B00.size) (fun _ _ _ _ _ h _ _ => h) ⟨⟨fun _ _ => rfl, Nat.le_refl _⟩, kp, ki, B00⟩ ?a1 ?assign ?body ?done ?stop
    case assign =>
      intro l x W K hK
      unfold encF
      gi_wp2
      exact hK
    case stop =>
      intro D c pre W hD hpre hI hK
      exact hI.elim
    case body =>
      rintro l pre x W ⟨⟨hkp, hz⟩, hp, hi, hB⟩ hpf
      obtain ⟨q1, q2, q3, q4⟩ := (split_props _ s 0).2 pre x hpf
      have hx1 : x.1 = placeOf pre := by rw [q1]; unfold placeOf; omega
      have hpn := place_snoc pre x
      have hwi : ws[pre.length]? = some x.2 := by
        obtain ⟨t, ht⟩ := hpf
        have e : framesOf s = pre ++ [x] ++ t := ht.symm
        rw [← hws, e, List.map_append, List.map_append, List.append_assoc, List.getElem?_append_right (by simp)]
        simp
      have hlt : pre.length < ws.length := (List.getElem?_eq_some_iff.1 hwi).1
      have hrw : Reads W w4.heap.size 1 A4 ws.length (sv ws) := r0.keep (fun p hp => World.cell?_of_block (hkp _ (hLi _ (by omega))))
      obtain ⟨ad, y, rfl, hby, hy, d1⟩ := str_at hrw hlt
      rw [hwi] at hy
      obtain rfl : x.2 = y := Option.some.inj hy
      obtain ⟨xp, xs⟩ := x
      simp only at hx1 q2 q3 q4 hpn d1
      have hf := fun Wx => refFrame_any xs (by omega) Wx
      generalize frameB xs = f at *
      have HF := Lib.hid hf
      have hfz := size_str f
      generalize hpl : pre.length = np at *
      subst hx1
      generalize hpp : placeOf pre = pp at *
      have cp := hp.cell
      have ci := hi.cell
      have cw := (hkp.boxed (hLi _ s6) kw).cell
      have hnn : (np : Int) < (ws.length : Int) := by omega
      have hfo : Try.prog.follows .mixedOrders = true := by kernel_rfl
      clear hf hy hwi hpf q1
      gi_wp2
      gi_region_with_o (refine ⟨trivial, ?_⟩; gi_at_call 32; refine (CallsIn.inRound l (callsIn_wide.2 (HF.out _))).mono ?_; rintro e w8 ⟨rfl, B8⟩; have hp8 : Boxed w8 w6.heap.size 3 (.int .i64 (pp : Int)) := (B8.block _ hp.lt).trans hp; have hi8 : Boxed w8 (w6.heap.size + 1) 3 (.int .i64 (np : Int)) := (B8.block _ hi.lt).trans hi; have cp8 := hp8.cell; have fp8 := hp8.frozen)
      all_goals
        have hi9 := hi8.other (B' := w6.heap.size) (by omega) (.int .i64 ((pp : Int) + (f.length : Int)))
        have hp9 := (hp8.set (.int .i64 ((pp : Int) + (f.length : Int)))).other (B' := w6.heap.size + 1) (by omega) (.int .i64 ((np : Int) + 1))
        have hi10 := hi9.set (.int .i64 ((np : Int) + 1))
        have ci8 := hi8.cell
        have fi8 := hi8.frozen
        have ho1 := (KeepsOthers.of_grownBy (W := W) (W' := w8) (row := none) (only_of_below (show Below W.heap.size W w8 from ⟨B8.os, B8.tape, B8.output, B8.size, B8.block⟩) none) (fun _ _ h _ => by cases h)).trans ((KeepsOthers.setCell w8 ⟨w6.heap.size, 0, none⟩ (.int .i64 ((pp : Int) + (f.length : Int)))).trans (KeepsOthers.setCell _ ⟨w6.heap.size + 1, 0, none⟩ (.int .i64 ((np : Int) + 1))))
        have hkp2 : KpL L W ((w8.setCell ⟨w6.heap.size, 0, none⟩ (.int .i64 ((pp : Int) + (f.length : Int)))).setCell ⟨w6.heap.size + 1, 0, none⟩ (.int .i64 ((np : Int) + 1))) := fun i hi => by
          obtain ⟨n1, n2⟩ := hLn i hi
          rw [Below.heap_setCell _ _ _ i (by simp only; omega), Below.heap_setCell _ _ _ i (by simp only; omega)]
          exact B8.block i (by have := hL i hi; show i < W.heap.size; omega)
        have hB2 : Below w.heap.size w ((w8.setCell ⟨w6.heap.size, 0, none⟩ (.int .i64 ((pp : Int) + (f.length : Int)))).setCell ⟨w6.heap.size + 1, 0, none⟩ (.int .i64 ((np : Int) + 1))) := ((hB.drew.trans (B8.mono hB.size)).setCell (p := ⟨w6.heap.size, 0, none⟩) B06.size _).setCell (p := ⟨w6.heap.size + 1, 0, none⟩) (Nat.le_succ_of_le B06.size) _
        have hz2 := Nat.le_trans hz ho1.size
        gi_wp2
        refine ⟨ho1.from _, hkp2, ⟨hkp.t hkp2, hz2⟩, ?_, ?_, hB2⟩
        · rw [hpn]; exact hp9
        · rw [List.length_append, hpl]; exact hi10
    case done =>
      rintro D xs W hD rfl ⟨⟨hkp, hz⟩, hp, hi, hB⟩ hK
      have ci := hi.cell
      have hkw := hkp.boxed (hLi _ s6) kw
      have cw := hkw.cell
      have hkr := hkp.boxed (hLi _ (by omega)) kr
      rw [hwl] at ci
      clear hp hi
      gi_wp2
      refine ⟨trivial, ?_⟩
      refine (callsIn_wide.2 (wakes3_any _)).mono ?_; rintro e w8 ⟨rfl, B8⟩
      have hkr8 : Boxed w8 w.heap.size 4 (.bool false) := (B8.block _ hkr.lt).trans hkr
      have cr := hkr8.cell
      have fr := hkr8.frozen
      have hD8 : (w8.setCell ⟨w.heap.size, 0, none⟩ (.bool true)).heap[D]? = some (.deferred (some [])) := (KeepsOthers.setCell w8 _ _).same _ _ ((B8.block _ (Array.getElem?_eq_some_iff.1 hK).1).trans hK) rfl
      have hr9 : Boxed ((w8.setCell ⟨w.heap.size, 0, none⟩ (.bool true)).putObj D (.deferred none)) w.heap.size 4 (.bool true) := (World.putObj_heap_other (by have := B06.size; omega)).trans (hkr8.set (.bool true))
      have hb9 := ((hB.trans (B8.mono hB.size)).setCell (p := ⟨w.heap.size, 0, none⟩) (Nat.le_refl _) (.bool true)).trans (belowK_b (w := w) (Nat.le_refl _) _ D (.deferred (some [])) (.deferred none) (by have := B06.size; omega) hD8 rfl rfl)
      gi_wp2
      exact ⟨by simp, .inl ⟨_, _, rfl, run_takeDeferred hD8, _, results_cell_bool rfl _ _ w.heap.size true rfl hr9, rfl, hb9⟩⟩
end Go.Proofs.Ytgbnaifjdfoahaa.Frame
