/- FrameWalks, walked. Conditions: the arguments are of their types. -/
import Derived.Test.YtgbnaifjdfoahaaFrameTakesL
namespace Go.Proofs.Ytgbnaifjdfoahaa.Frame
open Go.RowKit Wire

attribute [local go_sem] Oper.semAt_some

def lastOf (pre : List (Nat × List UInt8)) : Int := match pre.getLast? with | none => -1 | some y => (y.1 : Int)
theorem last_snoc (pre : List (Nat × List UInt8)) (x : Nat × List UInt8) : lastOf (pre ++ [x]) = (x.1 : Int) := by unfold lastOf; simp
theorem last_lt {s : List UInt8} {pre : List (Nat × List UInt8)} {x : Nat × List UInt8} (h : pre ++ [x] <+: framesOf s) : lastOf pre < (x.1 : Int) := by
  obtain ⟨q1, _⟩ := (split_props _ s 0).2 pre x h
  rcases List.eq_nil_or_concat pre with rfl | ⟨p, y, rfl⟩
  · show (-1 : Int) < _; omega
  · rw [List.concat_eq_append] at h q1 ⊢
    rw [last_snoc]
    have h2 : p ++ [y] <+: framesOf s := (List.prefix_append _ _).trans h
    obtain ⟨g1, g2, g3, _⟩ := (split_props _ s 0).2 p y h2
    have hl := (frame_len9 y.2 g3).1
    rw [List.map_append, List.sum_append] at q1
    simp only [List.map_cons, List.map_nil, List.sum_cons, List.sum_nil] at q1
    omega
theorem end_place : ∀ (k : Nat) (s : List UInt8) (at_ : Nat), (splitF k s at_).2.1 = at_ + placeOf (splitF k s at_).1 := by
  intro k
  induction k with
  | zero => intro s at_; simp [splitF, placeOf]
  | succ k ih =>
    intro s at_
    rw [splitF]
    by_cases hs : s = []
    · rw [if_pos hs]; simp [placeOf]
    · rw [if_neg hs]
      by_cases he : (takeF s).2.2 ≠ 0
      · rw [if_pos he]; simp [placeOf]
      · rw [if_neg he]
        have he0 : (takeF s).2.2 = 0 := Decidable.not_not.1 he
        obtain ⟨a, n, e, hp⟩ : ∃ a n e, takeF s = (a, n, e) := ⟨_, _, _, rfl⟩
        rw [hp] at he0 ⊢
        simp only at he0 ⊢
        subst he0
        obtain ⟨_, _, h2, _⟩ := take_back s a n hp
        have hc : ∀ r : List (Nat × List UInt8), placeOf ((at_, a) :: r) = (frameB a).length + placeOf r := fun r => by unfold placeOf; rw [List.map_cons, List.sum_cons]
        rw [ih, hc]
        omega
theorem lt_end {s : List UInt8} {pre : List (Nat × List UInt8)} {x : Nat × List UInt8} (h : pre ++ [x] <+: framesOf s) : x.1 < endOf s := by
  obtain ⟨q1, q2, q3, _⟩ := (split_props _ s 0).2 pre x h
  have he := end_place (s.length + 1) s 0
  have hl := (frame_len9 x.2 q3).1
  obtain ⟨t, ht⟩ := h
  have e : endOf s = 0 + placeOf (framesOf s) := he
  rw [e, ← ht]
  unfold placeOf
  rw [List.map_append, List.map_append, List.sum_append, List.sum_append]
  simp only [List.map_cons, List.map_nil, List.sum_cons, List.sum_nil]
  omega
/-- What holds between two rounds: the boxes of the count and of the last place. -/
def WkAt (w W0 : World) (L : Nat → Prop) (bn bl : Nat) (pre : List (Nat × List UInt8)) (W : World) : Prop :=
  (KpL L W0 W ∧ W0.heap.size ≤ W.heap.size) ∧ (Boxed W bl 3 (.int .i64 (lastOf pre)) ∧ (Boxed W bn 3 (.int .i64 (pre.length : Int)) ∧ Below w.heap.size w W))
theorem wk_own (w W0 : World) (L : Nat → Prop) (hL : ∀ i, L i → i < W0.heap.size) (bn bl : Nat) (hB : w.heap.size ≤ W0.heap.size) : OwnFrom W0.heap.size (WkAt w W0 L bn bl) :=
  OwnFrom.and (ownFrom_kpl hL) (OwnFrom.and (Own.from (boxed_own bl 3 (fun pre : List (Nat × List UInt8) => Value.int .i64 (lastOf pre))) _) (OwnFrom.and (Own.from (boxed_own bn 3 (fun pre : List (Nat × List UInt8) => Value.int .i64 (pre.length : Int))) _) (ownFrom_below (Nat.le_refl _) hB)))
def WkI (w W0 : World) (L : Nat → Prop) (bn bl E : Nat) (pre : List (Nat × List UInt8)) (W : World) : Prop := WkAt w W0 L bn bl pre W ∧ (pre = [] ∨ pre.length < E)
def WkX (w W0 : World) (L : Nat → Prop) (bn bl E : Nat) (c : Code) (pre : List (Nat × List UInt8)) (W : World) : Prop := WkAt w W0 L bn bl pre W ∧ (c = .exit 0 ∧ pre.length = E)
set_option linter.unusedSimpArgs false in
set_option maxRecDepth 100000 in
set_option maxHeartbeats 8000000 in
theorem fwalks_any (s : List UInt8) (hs : s.length ≤ 9223372036854775807) (most : Nat) (hm : most < 256) (w : World) : Calls Try.prog 10 #[.string ⟨s.toArray⟩, .int .u8 (most : Int)] w fun e w' => e = .returned (.bool true) ∧ Below w.heap.size w w' := by
  have hsz := size_str s
  have b0 := below_one w (.cells #[.bool false] 4)
  have k0 := Boxed.new w 4 (.bool false)
  refine (callsIn_wide (n := 5)).1 ?_
  refine callsIn_of_wp_marks Try.func10 rfl trivial ?_ rfl
  simp only [Try.ntmps10, List.size_toArray, List.length_cons, List.length_nil, Nat.reduceAdd, Nat.reduceSub, Array.replicate_succ, Array.replicate_zero, List.push_toArray, List.append_toArray, List.nil_append, List.cons_append]
  by_cases h6 : 6000 < s.length
  · have h62 : (6000 : Int) < (s.length : Int) := by omega
    gi_wp2
    refine ⟨trivial, ?_⟩
    refine (callsIn_wide.2 (wakes3_any _)).mono ?_; rintro e w1 ⟨rfl, B1⟩
    have k1 : Boxed w1 w.heap.size 4 (.bool false) := (B1.block _ (by simp)).trans k0
    have c1 := k1.cell
    have f1 := k1.frozen
    have B01 := (b0.trans (B1.mono b0.size)).setCell (p := ⟨w.heap.size, 0, none⟩) (Nat.le_refl _) (.bool true)
    gi_wp2
    exact ⟨_, results_cell_bool rfl _ _ w.heap.size true rfl (k1.set (.bool true)), rfl, B01⟩
  · have h62 : ¬ (6000 : Int) < (s.length : Int) := by omega
    obtain ⟨E, hE, hE1⟩ : ∃ E : Nat, max (most : Int) 1 = (E : Int) ∧ 1 ≤ E := ⟨max most 1, by omega, by omega⟩
    have hEle : E ≤ 256 := by omega
    gi_wp2
    refine ⟨trivial, ?_⟩
    refine (callsIn_wide.2 (split_any s (by omega) _)).mono ?_; rintro e w1 ⟨v1, rfl, own1, B1⟩
    obtain ⟨ws, hws, hwl⟩ : ∃ ws, (framesOf s).map Prod.snd = ws ∧ (framesOf s).length = ws.length := ⟨_, rfl, by simp⟩
    rw [hws, hwl] at own1
    obtain ⟨A1, c1, rfl, r1⟩ := own_slice1 own1
    have hwn : ws.length ≤ 6000 := by have := frames_len s; omega
    have B01 := b0.trans (B1.mono b0.size)
    have k1 : Boxed w1 w.heap.size 4 (.bool false) := (B1.block _ (by simp)).trans k0
    have hlt1 := k1.lt
    have hf : ∀ (W : World) (p q : Value), (binOp .eql 68 (.func (.func 85) #[] #[p, q]) .nilFunc).run Try.prog W = .ok (.bool false) W := fun _ _ _ => by kernel_rfl
    clear own1 B1 k0 b0
    gi_wp2
    refine ⟨trivial, ?_⟩
    refine (callsIn_wide.2 (walk_any s _)).mono ?_; rintro e w7 ⟨rfl, rfl⟩
    gi_wp2
    have k := (((((((Kg.refl w1).new 59 #[.slice A1 ws.length c1]).new 3 #[.int .i64 (endOf s : Int)]).new 3 #[.int .i64 (E : Int)]).new 3 #[.int .i64 0]).new 3 #[.int .i64 (-1)]).new 9 #[.string ⟨s.toArray⟩]).new 112 #[.func (.func 72) #[] #[]]
    simp only [World.size_alloc, Nat.add_assoc, Nat.reduceAdd] at k
    have hs0 : (((((((w1.alloc (.cells #[.slice A1 ws.length c1] 59)).alloc (.cells #[.int .i64 (endOf s : Int)] 3)).alloc (.cells #[.int .i64 (E : Int)] 3)).alloc (.cells #[.int .i64 0] 3)).alloc (.cells #[.int .i64 (-1)] 3)).alloc (.cells #[.string ⟨s.toArray⟩] 9)).alloc (.cells #[.func (.func 72) #[] #[]] 112)).heap.size = w1.heap.size + 7 := by simp
    generalize (((((((w1.alloc (.cells #[.slice A1 ws.length c1] 59)).alloc (.cells #[.int .i64 (endOf s : Int)] 3)).alloc (.cells #[.int .i64 (E : Int)] 3)).alloc (.cells #[.int .i64 0] 3)).alloc (.cells #[.int .i64 (-1)] 3)).alloc (.cells #[.string ⟨s.toArray⟩] 9)).alloc (.cells #[.func (.func 72) #[] #[]] 112)) = W0 at *
    have B00 := B01.trans (k.bw.mono B01.size)
    have kt : Boxed W0 (w1.heap.size + 6) 112 (.func (.func 72) #[] #[]) := k.i1
    have ks : Boxed W0 (w1.heap.size + 5) 9 (.string ⟨s.toArray⟩) := k.i2
    have kl : Boxed W0 (w1.heap.size + 4) 3 (.int .i64 (-1)) := k.i3
    have kn : Boxed W0 (w1.heap.size + 3) 3 (.int .i64 0) := k.i4
    have ke : Boxed W0 (w1.heap.size + 2) 3 (.int .i64 (E : Int)) := k.i5
    have kd : Boxed W0 (w1.heap.size + 1) 3 (.int .i64 (endOf s : Int)) := k.tail.i5
    have kw : Boxed W0 w1.heap.size 59 (.slice A1 ws.length c1) := k.tail.tail.i5
    have kr : Boxed W0 w.heap.size 4 (.bool false) := (k.bw.block _ hlt1).trans k1
    have r0 := r1.below k.bw
    obtain ⟨L, hLd⟩ : ∃ L : Nat → Prop, L = fun i => i < w1.heap.size + 7 ∧ i ≠ w1.heap.size + 3 ∧ i ≠ w1.heap.size + 4 := ⟨_, rfl⟩
    have hL : ∀ i, L i → i < W0.heap.size := by intro i hi; rw [hLd] at hi; obtain ⟨h1, _⟩ := hi; omega
    have hLi : ∀ i, i < w1.heap.size + 3 → L i := by intro i hi; rw [hLd]; exact ⟨by omega, by omega, by omega⟩
    have hL2 : L (w1.heap.size + 5) := by rw [hLd]; exact ⟨by omega, by omega, by omega⟩
    have hL3 : L (w1.heap.size + 6) := by rw [hLd]; exact ⟨by omega, by omega, by omega⟩
    have hLn : ∀ i, L i → i ≠ w1.heap.size + 3 ∧ i ≠ w1.heap.size + 4 := by intro i hi; rw [hLd] at hi; exact hi.2
    clear hLd k k1 r1
    refine range_fin rfl (by omega) (gf := 85) (bd := #[]) (lb := #[.pointer (some ⟨w1.heap.size + 5, 0, none⟩), .pointer (some ⟨w1.heap.size + 6, 0, none⟩)]) rfl trivial (enters_of Try.func85 (by kernel_rfl) rfl)
      (walk_stops _ s (by omega) W0 L hL (w1.heap.size + 5) (w1.heap.size + 6) hL2 hL3 ks kt)
      (fun h k => h.t k) (KpL.b hL) (Below.refl _ _) (fun _ => rfl)
      (WkI w W0 L (w1.heap.size + 3) (w1.heap.size + 4) E) (WkI w W0 L (w1.heap.size + 3) (w1.heap.size + 4) E) (OwnFrom.and (wk_own w W0 L hL _ _ B00.size) (ownFrom_pure _ (fun pre : List (Nat × List UInt8) => pre = [] ∨ pre.length < E))) (fun xs A B _ hA hF => by rw [hF.2]; exact hA)
      (fun xs A B hA hF r o hr ho hc => by rw [hF.2]; exact ho)
      (WkX w W0 L (w1.heap.size + 3) (w1.heap.size + 4) E) (OwnFrom.and (wk_own w W0 L hL _ _ B00.size) (ownFrom_pure _ (fun pre : List (Nat × List UInt8) => pre = [] ∨ pre.length < E))) (fun c => OwnFrom.and (wk_own w W0 L hL _ _ B00.size) (ownFrom_pure _ (fun pre : List (Nat × List UInt8) => c = .exit 0 ∧ pre.length = E))) ⟨⟨⟨fun _ _ => rfl, Nat.le_refl _⟩, kl, kn, B00⟩, .inl rfl⟩ ?a1 ?assign ?body ?done ?stop
    case assign =>
      intro l x W K hK
      unfold encF
      gi_wp2
      exact hK
    case body =>
      rintro l pre x W ⟨⟨⟨hkp, hz⟩, hp, hi, hB⟩, hgo⟩ hpf
      have hll := last_lt hpf
      have hle := lt_end hpf
      have hsn := last_snoc pre x
      have hwi : ws[pre.length]? = some x.2 := by
        obtain ⟨t, ht⟩ := hpf
        have e : framesOf s = pre ++ [x] ++ t := ht.symm
        rw [← hws, e, List.map_append, List.map_append, List.append_assoc, List.getElem?_append_right (by simp)]
        simp
      have hlt : pre.length < ws.length := (List.getElem?_eq_some_iff.1 hwi).1
      have hrw : Reads W w1.heap.size 1 A1 ws.length (sv ws) := r0.keep (fun p hp => World.cell?_of_block (hkp _ (hLi _ (by omega))))
      obtain ⟨ad, y, rfl, hby, hy, d1⟩ := str_at hrw hlt
      rw [hwi] at hy
      obtain rfl : x.2 = y := Option.some.inj hy
      have hgo2 : pre.length < E := by
        rcases hgo with rfl | h
        · simp; omega
        · exact h
      obtain ⟨xp, xs⟩ := x
      simp only at hll hle hsn d1
      generalize hpl : pre.length = np at *
      generalize hlo : lastOf pre = lo at *
      have cl := hp.cell
      have fl := hp.frozen
      have cn := hi.cell
      have fn := hi.frozen
      have cw := (hkp.boxed (hLi _ (by omega)) kw).cell
      have ce := (hkp.boxed (hLi _ (by omega)) ke).cell
      have cd := (hkp.boxed (hLi _ (by omega)) kd).cell
      have hnn : (np : Int) < (ws.length : Int) := by omega
      have hle2 : (xp : Int) < (endOf s : Int) := by omega
      have hi9 := hi.other (B' := w1.heap.size + 4) (by omega) (.int .i64 (xp : Int))
      have hp9 := (hp.set (.int .i64 (xp : Int))).other (B' := w1.heap.size + 3) (by omega) (.int .i64 ((np : Int) + 1))
      have hi10 := hi9.set (.int .i64 ((np : Int) + 1))
      have ho1 := (KeepsOthers.setCell W ⟨w1.heap.size + 4, 0, none⟩ (.int .i64 (xp : Int))).trans (KeepsOthers.setCell _ ⟨w1.heap.size + 3, 0, none⟩ (.int .i64 ((np : Int) + 1)))
      have hkp2 : KpL L W ((W.setCell ⟨w1.heap.size + 4, 0, none⟩ (.int .i64 (xp : Int))).setCell ⟨w1.heap.size + 3, 0, none⟩ (.int .i64 ((np : Int) + 1))) := fun i hi => by
        obtain ⟨n1, n2⟩ := hLn i hi
        rw [Below.heap_setCell _ _ _ i (by simp only; omega), Below.heap_setCell _ _ _ i (by simp only; omega)]
      have hs1 := B01.size
      have hB2 : Below w.heap.size w ((W.setCell ⟨w1.heap.size + 4, 0, none⟩ (.int .i64 (xp : Int))).setCell ⟨w1.heap.size + 3, 0, none⟩ (.int .i64 ((np : Int) + 1))) := (hB.setCell (p := ⟨w1.heap.size + 4, 0, none⟩) (by simp only; omega) _).setCell (p := ⟨w1.heap.size + 3, 0, none⟩) (by simp only; omega) _
      have hz2 := Nat.le_trans hz ho1.size
      have HP : Hid (∀ p : Prop, p → WkAt w W0 L (w1.heap.size + 3) (w1.heap.size + 4) (pre ++ [(xp, xs)]) ((W.setCell ⟨w1.heap.size + 4, 0, none⟩ (.int .i64 (xp : Int))).setCell ⟨w1.heap.size + 3, 0, none⟩ (.int .i64 ((np : Int) + 1)))) := fun p _ => by
        refine ⟨⟨hkp.t hkp2, hz2⟩, ?_, ?_, hB2⟩
        · rw [hsn]; exact hp9
        · rw [List.length_append, hpl]; exact hi10
      have HL : Hid ((pre ++ [(xp, xs)]).length = np + 1) := by show _ = _; rw [List.length_append, hpl]; rfl
      clear hy hwi hpf hgo hi9 hp9 hi10
      by_cases hEn : np + 1 < E
      · have hEi : (np : Int) + 1 < (E : Int) := by omega
        gi_wp2
        exact ⟨ho1.from _, hkp2, HP.out True trivial, .inr (by rw [HL.out]; exact hEn)⟩
      · have hEi : ¬ (np : Int) + 1 < (E : Int) := by omega
        gi_wp2
        exact ⟨ho1.from _, HP.out True trivial, rfl, by rw [HL.out]; omega⟩
    case done =>
      rintro D xs W hD rfl ⟨⟨⟨hkp, hz⟩, hp, hi, hB⟩, _⟩ hK
      have ci := hi.cell
      have hkw := hkp.boxed (hLi _ (by omega)) kw
      have cw := hkw.cell
      have hkr := hkp.boxed (hLi _ (by omega)) kr
      rw [hwl] at ci
      clear hp hi
      gi_wp2
      refine ⟨trivial, ?_⟩
      refine (callsIn_wide.2 (wakes3_any _)).mono ?_; rintro e w8 ⟨rfl, B8⟩
      have hkr8 : Boxed w8 w.heap.size 4 (.bool false) := (B8.block _ hkr.lt).trans hkr
      have cr := hkr8.cell
      have fr := hkr8.frozen
      have hD8 : (w8.setCell ⟨w.heap.size, 0, none⟩ (.bool true)).heap[D]? = some (.deferred (some [])) := (KeepsOthers.setCell w8 _ _).same _ _ ((B8.block _ (Array.getElem?_eq_some_iff.1 hK).1).trans hK) rfl
      have hr9 : Boxed ((w8.setCell ⟨w.heap.size, 0, none⟩ (.bool true)).putObj D (.deferred none)) w.heap.size 4 (.bool true) := (World.putObj_heap_other (by omega)).trans (hkr8.set (.bool true))
      have hb9 := ((hB.trans (B8.mono hB.size)).setCell (p := ⟨w.heap.size, 0, none⟩) (Nat.le_refl _) (.bool true)).trans (belowK_b (w := w) (Nat.le_refl _) _ D (.deferred (some [])) (.deferred none) (by omega) hD8 rfl rfl)
      gi_wp2
      exact ⟨by simp, .inl ⟨_, _, rfl, run_takeDeferred hD8, _, results_cell_bool rfl _ _ w.heap.size true rfl hr9, rfl, hb9⟩⟩
    case stop =>
      rintro D c pre W hD hpre ⟨⟨⟨hkp, hz⟩, hp, hi, hB⟩, rfl, hlen⟩ hK
      have ci := hi.cell
      have hkw := hkp.boxed (hLi _ (by omega)) kw
      have cw := hkw.cell
      have ce := (hkp.boxed (hLi _ (by omega)) ke).cell
      have hkr := hkp.boxed (hLi _ (by omega)) kr
      rw [hlen] at ci
      clear hp hi
      by_cases hq : E = ws.length
      · have hq2 : ((E : Int) == (ws.length : Int)) = true := by rw [hq]; simp
        clear hq
        gi_wp2
        refine ⟨trivial, ?_⟩
        refine (callsIn_wide.2 (wakes3_any _)).mono ?_; rintro e w8 ⟨rfl, B8⟩
        have hkr8 : Boxed w8 w.heap.size 4 (.bool false) := (B8.block _ hkr.lt).trans hkr
        have cr := hkr8.cell
        have fr := hkr8.frozen
        have hD8 : (w8.setCell ⟨w.heap.size, 0, none⟩ (.bool true)).heap[D]? = some (.deferred (some [])) := (KeepsOthers.setCell w8 _ _).same _ _ ((B8.block _ (Array.getElem?_eq_some_iff.1 hK).1).trans hK) rfl
        have hr9 : Boxed ((w8.setCell ⟨w.heap.size, 0, none⟩ (.bool true)).putObj D (.deferred none)) w.heap.size 4 (.bool true) := (World.putObj_heap_other (by omega)).trans (hkr8.set (.bool true))
        have hb9 := ((hB.trans (B8.mono hB.size)).setCell (p := ⟨w.heap.size, 0, none⟩) (Nat.le_refl _) (.bool true)).trans (belowK_b (w := w) (Nat.le_refl _) _ D (.deferred (some [])) (.deferred none) (by omega) hD8 rfl rfl)
        gi_wp2
        exact ⟨by simp, .inl ⟨_, _, rfl, run_takeDeferred hD8, _, results_cell_bool rfl _ _ w.heap.size true rfl hr9, rfl, hb9⟩⟩
      · have hq2 : ((E : Int) == (ws.length : Int)) = false := beq_eq_false_iff_ne.2 (by omega)
        clear hq
        gi_wp2
        refine ⟨trivial, ?_⟩
        refine (callsIn_wide.2 (wakes3_any _)).mono ?_; rintro e w8 ⟨rfl, B8⟩
        have hkr8 : Boxed w8 w.heap.size 4 (.bool false) := (B8.block _ hkr.lt).trans hkr
        have cr := hkr8.cell
        have fr := hkr8.frozen
        have hD8 : (w8.setCell ⟨w.heap.size, 0, none⟩ (.bool true)).heap[D]? = some (.deferred (some [])) := (KeepsOthers.setCell w8 _ _).same _ _ ((B8.block _ (Array.getElem?_eq_some_iff.1 hK).1).trans hK) rfl
        have hr9 : Boxed ((w8.setCell ⟨w.heap.size, 0, none⟩ (.bool true)).putObj D (.deferred none)) w.heap.size 4 (.bool true) := (World.putObj_heap_other (by omega)).trans (hkr8.set (.bool true))
        have hb9 := ((hB.trans (B8.mono hB.size)).setCell (p := ⟨w.heap.size, 0, none⟩) (Nat.le_refl _) (.bool true)).trans (belowK_b (w := w) (Nat.le_refl _) _ D (.deferred (some [])) (.deferred none) (by omega) hD8 rfl rfl)
        gi_wp2
        exact ⟨by simp, .inl ⟨_, _, rfl, run_takeDeferred hD8, _, results_cell_bool rfl _ _ w.heap.size true rfl hr9, rfl, hb9⟩⟩
end Go.Proofs.Ytgbnaifjdfoahaa.Frame
