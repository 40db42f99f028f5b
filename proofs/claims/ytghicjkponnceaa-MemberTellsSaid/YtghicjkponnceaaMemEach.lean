/- The nodes that a set tells, one by one, and the list that the statements collect of them. Conditions: the arguments are of their types. -/
import Derived.Test.YtghicjkponnceaaMemRef
import Derived.Test.YtghicjkponnceaaRange
import Derived.Shelf.Abstract
import Derived.OwnWalkIn
import Derived.TacticsInMore
import Derived.LoopNIn
import Derived.LoopIn
namespace Go.Proofs.Ytghicjkponnceaa.Mem
open Go.RowKit Go.Shelf

attribute [local go_sem] Oper.semAt_some

theorem has_bit (s k : Nat) (hk : k < 7) : hasB s k = s.testBit k := by
  unfold hasB
  rw [of_one]
  cases h : s.testBit k
  · have : s &&& oneN k = 0 := by
      apply Nat.eq_of_testBit_eq
      intro i
      rw [Nat.testBit_and, test_one]
      by_cases hi : k = i
      · subst hi; simp [h]
      · simp [hi]
    simp [this]
  · have : s &&& oneN k ≠ 0 := by
      intro h0
      have := congrArg (fun x => x.testBit k) h0
      simp [Nat.testBit_and, test_one, h, hk] at this
    simp [this]

theorem listTo_prefix (s k : Nat) (hk : k ≤ 7) : listTo s k <+: listN s := by
  have h : ∀ d, listTo s k <+: listTo s (k + d) := by
    intro d
    induction d with
    | zero => exact List.prefix_refl _
    | succ d ih =>
      refine List.IsPrefix.trans ih ?_
      rw [show k + (d + 1) = k + d + 1 from rfl]
      cases ht : s.testBit (k + d)
      · rw [listTo_no s _ ht]; exact List.prefix_refl _
      · rw [listTo_yes s _ ht]; exact List.prefix_append _ _
  have := h (7 - k)
  rwa [show k + (7 - k) = 7 from by omega] at this

/-- What has come when the loop of 'each' stands at k. -/
def EachAt (s : Nat) (J : List Nat → World → Prop) (i : Value) (wr : World) : Prop :=
  ∃ k : Nat, k ≤ 7 ∧ i = .int .u8 (k : Int) ∧ J (listTo s k) wr

set_option maxRecDepth 100000 in
set_option maxHeartbeats 2000000 in
theorem each_in (n : Nat) (s : Nat) (hs : s < 256) (l : Nat) (Kp : World → World → Prop) (J Jx : List Nat → World → Prop) (W : World)
    (hJ : ∀ (X : World) (o : Obj) (pre : List Nat), J pre X → J pre (X.alloc o))
    (hY : ∀ (pre : List Nat) (x : Nat) (W1 : World), J pre W1 → pre.length < 7 → YieldAt Fence.wide (n - 1) Try.prog l #[.int .u8 (x : Int)] W1 fun e W' =>
      (e = .returned (.bool true) ∧ J (pre ++ [x]) W' ∧ Kp W1 W') ∨ (e = .returned (.bool false) ∧ Jx (pre ++ [x]) W')) (h0 : J [] W) :
    CallsIn Fence.wide n Try.prog 93 #[.int .u8 (s : Int), .func (.yield l) #[] #[]] W fun e W' => (∃ v, e = .returned v) ∧ ((∃ xs, xs = listN s ∧ J xs W') ∨ (∃ pre, pre <+: listN s ∧ Jx pre W')) := by
  refine callsIn_of_wp Try.func93 rfl trivial ?_ rfl
  simp only [Try.ntmps93, List.size_toArray, List.length_cons, List.length_nil, Nat.reduceAdd, Nat.reduceSub, Array.replicate_succ, Array.replicate_zero, List.push_toArray, List.append_toArray, List.nil_append, List.cons_append]
  gi_wp2
  gi_loopw [5] (fun i wr => EachAt s J i wr) (fun i wr => 7 - (intOf i).toNat)
  case atStart => exact ⟨0, by omega, rfl, h0⟩
  case round =>
    obtain ⟨k, hk, rfl, hJs⟩ := hrel
    by_cases hlt : k < 7
    · have hJ2 := hJ wr (.cells #[.int .u8 (k : Int)] 5) _ hJs
      have hlen := listTo_len s k
      have hbit := has_bit s k hlt
      cases ht : s.testBit k
      · have hh : hasB s k = false := hbit.trans ht
        have HT := Lib.hid (listTo_no s k ht)
        have HJ := Lib.hid hJ2
        have HY := Lib.hid hY
        clear hJ2 hY hJ hJs hbit ht h0
        gi_wp2_with (refine ⟨trivial, (fun h => by cases h), ?_⟩; gi_at_call 35; refine (callsIn_wide.2 (has_any s k hs (by omega) _)).mono ?_; rintro e w' ⟨rfl, rfl⟩)
        refine ⟨(fun _ h => by cases h), ?_⟩
        gi_wp2
        exact ⟨⟨k + 1, by omega, by go_num, by rw [HT.out]; exact HJ.out⟩, by simp [intOf]; omega⟩
      · have hh : hasB s k = true := hbit.trans ht
        have HT := Lib.hid (listTo_yes s k ht)
        obtain ⟨fn, tmps, assign, body, hy, hR⟩ := hY _ k _ hJ2 (by omega)
        have HR := Lib.hid hR
        have HP := Lib.hid (listTo_prefix s (k + 1) (by omega))
        clear hJ2 hY hJ hJs hbit ht h0 hR
        gi_wp2_with (refine ⟨trivial, (fun h => by cases h), ?_⟩; gi_at_call 35; refine (callsIn_wide.2 (has_any s k hs (by omega) _)).mono ?_; rintro e w' ⟨rfl, rfl⟩)
        refine ⟨(fun h => by cases h), ?_⟩
        refine HR.out.mono ?_
        rintro e W3 (⟨rfl, hJ3, _⟩ | ⟨rfl, hJ3⟩)
        · gi_wp2
          exact ⟨⟨k + 1, by omega, by go_num, by rw [HT.out]; exact hJ3⟩, by simp [intOf]; omega⟩
        · gi_wp2
          refine bodyPost_ret (results_none rfl _ _ _) rfl ?_
          exact ⟨⟨_, rfl⟩, .inr ⟨_, by rw [← HT.out]; exact HP.out, hJ3⟩⟩
    · obtain rfl : k = 7 := by omega
      gi_wp2
      go_end0
      exact ⟨⟨_, rfl⟩, .inl ⟨_, rfl, hJs⟩⟩

theorem each_stops (n : Nat) (s : Nat) (hs : s < 256) (Kp : World → World → Prop) (w : World) :
    SeqStopsB Fence.wide n Try.prog 93 #[.int .u8 (s : Int)] #[] (fun x : Nat => #[Value.int .u8 (x : Int)]) Kp (fun xs => xs = listN s) (fun pre => pre <+: listN s) 7 w := fun l J Jx W _ hJ _ hY h0 => by
  have h := each_in n s hs l Kp J Jx W (fun X o pre hx => hJ pre X (X.alloc o) none hx (World.grownBy_alloc _ _ none) (fun r e => by cases e)) hY h0
  simpa using h

theorem all_any (s : Nat) (w : World) :
    Calls Try.prog 71 #[.int .u8 (s : Int)] w fun e w' => e = .returned (.func (.func 93) #[.int .u8 (s : Int)] #[]) ∧ w = w' := by
  go_enter Try.func71, Try.ntmps71
  go_wp2
  go_ret
  exact ⟨rfl, rfl⟩

/-- What the statements' list of a set's nodes holds between two rounds. -/
def ToldAt (most : Int) (w : World) (pre : List Nat) (W : World) : Prop :=
  (∃ v, Boxed W (w.heap.size + 1) 44 v ∧ W.ownsRow w.heap.size 5 1 v pre.length (pre.map u8v) ∧ True) ∧ (Boxed W w.heap.size 3 (.int .i64 most) ∧ Below w.heap.size w W)
theorem told_own (most : Int) (w : World) (B : Nat) (hB : w.heap.size ≤ B) : OwnFrom B (ToldAt most w) :=
  OwnFrom.and (Own.from (holdsRow_own w.heap.size (w.heap.size + 1) 44 5 1 (fun pre : List Nat => pre.length) (fun pre => pre.map u8v) (fun _ _ => True)) _)
    (OwnFrom.and (Own.from (boxed_own w.heap.size 3 (fun _ => .int .i64 most)) _) (ownFrom_below (Nat.le_refl _) hB))
/-- A round goes on while fewer than 'most' have come. -/
def ToldI (most : Int) (w : World) (pre : List Nat) (W : World) : Prop := ToldAt most w pre W ∧ (pre = [] ∨ (pre.length : Int) < most)
def ToldX (most : Int) (w : World) (c : Code) (pre : List Nat) (W : World) : Prop := ToldAt most w pre W ∧ (c = .exit 0 ∧ pre.length = max 1 most.toNat)
set_option maxRecDepth 100000 in
set_option maxHeartbeats 2000000 in
theorem told_any (s : Nat) (hs : s < 256) (most : Int) (w : World) :
    Calls Try.prog 33 #[.int .u8 (s : Int), .int .i64 most] w fun e w' => RetNums w w' e ((listN s).take (max 1 most.toNat)) := by
  obtain ⟨i0, hi, hz0, hz1, hz2⟩ := info_parts info_u8
  have hf : ∀ W : World, (binOp .eql 120 (.func (.func 93) #[.int .u8 (s : Int)] #[]) .nilFunc).run Try.prog W = .ok (.bool false) W := fun _ => by kernel_rfl
  refine (callsIn_wide (n := 5)).1 ?_
  refine callsIn_of_wp_marks Try.func33 rfl trivial ?_ rfl
  simp only [Try.ntmps33, List.size_toArray, List.length_cons, List.length_nil, Nat.reduceAdd, Nat.reduceSub, Array.replicate_succ, Array.replicate_zero, List.push_toArray, List.append_toArray, List.nil_append, List.cons_append]
  gi_wp2_with (refine ⟨trivial, ?_⟩; gi_at_call 71; refine (callsIn_wide.2 (all_any s _)).mono ?_; rintro e w' ⟨rfl, rfl⟩)
  have bM := (Boxed.new w 3 (.int .i64 most)).alloc (.cells #[.slice none 0 0] 44)
  have bO := Boxed.new (w.alloc (.cells #[.int .i64 most] 3)) 44 (.slice none 0 0)
  rw [World.size_alloc] at bO
  have hB0 : Below w.heap.size w ((w.alloc (.cells #[.int .i64 most] 3)).alloc (.cells #[.slice none 0 0] 44)) := ((Below.refl _ w).alloc (Nat.le_refl _) _).alloc (by simp) _
  refine range_bound rfl (by omega) (gf := 93) (bd := #[.int .u8 (s : Int)]) (lb := #[]) rfl trivial (enters_of Try.func93 (by kernel_rfl) rfl)
    (each_stops _ s hs (Below w.heap.size) _) belowK_t (belowK_b (by simp; omega)) (Below.refl _ _) (fun _ => rfl)
    (ToldI most w) (ToldX most w) (OwnFrom.and (told_own most w _ (by simp; omega)) (ownFrom_pure _ (fun pre : List Nat => pre = [] ∨ (pre.length : Int) < most))) (fun c => OwnFrom.and (told_own most w _ (by simp; omega)) (ownFrom_pure _ (fun pre : List Nat => c = .exit 0 ∧ pre.length = max 1 most.toNat)))
    ⟨⟨⟨_, bO, World.ownsRow_nil _ _ _ _, trivial⟩, bM, hB0⟩, .inl rfl⟩
    (fun x => { tmps := #[.int .u8 (s : Int), .int .i64 most, undef, .pointer (some ⟨w.heap.size, 0, none⟩), .slice none 0 0, .pointer (some ⟨w.heap.size + 1, 0, none⟩), .func (.func 93) #[.int .u8 (s : Int)] #[], .int .u8 (x : Int), .int .u8 (s : Int), .func (.func 93) #[.int .u8 (s : Int)] #[], .func (.func 93) #[.int .u8 (s : Int)] #[], .bool false, .func (.func 93) #[.int .u8 (s : Int)] #[], .int .u8 (x : Int), undef, undef, undef, undef, undef, undef, undef, undef, undef], defers := [] }) ?assign ?body ?done ?stop
  case assign =>
    intro l x W K hK
    gi_wp2
    exact hK
  case body =>
    rintro l pre x W ⟨⟨⟨v, hv, hrow, _⟩, hM, hB⟩, hp⟩ hlt
    have hc := hv.cell
    have hm1 := hM.cell
    by_cases hlast : most ≤ (pre.length : Int) + 1
    · gi_wp2_with (gi_at_builtin; refine wpListIn_append_own _ rfl _ _ 44 rfl w.heap.size 5 i0 (.int .u8 0) 1 1 Try.underlying44 hi hz0 hz1 hz2 rfl (by decide) _ _ _ rfl (hrow.alloc _) ⟨W.heap.size, 0, none⟩ 1 1 [.int .u8 (x : Int)] rfl rfl (cell_one_new _ _ _) (by simp [Value.oneCell']) (by unfold maxLen; omega) (by omega) (by have := hB.size; simp; omega) ?_; intro v' w1 hown' hgrow _; obtain ⟨g', cap', rfl⟩ := ownsRow_succ hown'; obtain ⟨hv1, hv2, hr2, hk2, hb2⟩ := hv.appended (by decide) hrow hB.size (by omega) hown' hgrow; have hM2 := (((hM.alloc _).kept hgrow (hM.not_row (by decide) hrow)).other (B' := w.heap.size + 1) (by omega) (.slice (some ⟨g', 0, none⟩) (pre.length + 1) cap')); have hc1 := hv1.cell; have hf1 := hv1.frozen; have hc2 := hv2.cell; have hm2 := hM2.cell)
      exact ⟨hk2.from _, ⟨⟨⟨_, hv2, by simpa [u8v] using hr2, trivial⟩, hM2, hB.trans hb2⟩, rfl, by
        rw [List.length_append, List.length_singleton]
        rcases hp with rfl | hp
        · simp at hlast ⊢; omega
        · omega⟩⟩
    · gi_wp2_with (gi_at_builtin; refine wpListIn_append_own _ rfl _ _ 44 rfl w.heap.size 5 i0 (.int .u8 0) 1 1 Try.underlying44 hi hz0 hz1 hz2 rfl (by decide) _ _ _ rfl (hrow.alloc _) ⟨W.heap.size, 0, none⟩ 1 1 [.int .u8 (x : Int)] rfl rfl (cell_one_new _ _ _) (by simp [Value.oneCell']) (by unfold maxLen; omega) (by omega) (by have := hB.size; simp; omega) ?_; intro v' w1 hown' hgrow _; obtain ⟨g', cap', rfl⟩ := ownsRow_succ hown'; obtain ⟨hv1, hv2, hr2, hk2, hb2⟩ := hv.appended (by decide) hrow hB.size (by omega) hown' hgrow; have hM2 := (((hM.alloc _).kept hgrow (hM.not_row (by decide) hrow)).other (B' := w.heap.size + 1) (by omega) (.slice (some ⟨g', 0, none⟩) (pre.length + 1) cap')); have hc1 := hv1.cell; have hf1 := hv1.frozen; have hc2 := hv2.cell; have hm2 := hM2.cell)
      exact ⟨hk2.from _, hb2, ⟨⟨_, hv2, by simpa [u8v] using hr2, trivial⟩, hM2, hB.trans hb2⟩, .inr (by rw [List.length_append, List.length_singleton]; omega)⟩
  case done =>
    rintro D ys W hD rfl ⟨⟨⟨v, hv, hrow, _⟩, hM, hB⟩, hp⟩ hK
    have hc := hv.cell
    have hrow2 := ownsRow_putObj hrow (.deferred none) hK rfl
    obtain ⟨A, c, hv', hr⟩ := own_slice hrow2
    subst hv'
    have he : (listN s).take (max 1 most.toNat) = listN s := by
      rcases hp with hp | hp
      · rw [hp]; simp
      · exact List.take_of_length_le (by omega)
    have hb := hB.trans (belowK_b (w := w) (Nat.le_refl _) W D (.deferred (some [])) (.deferred none) (by simp at hD; omega) hK rfl rfl)
    have HE := Lib.hid he
    clear he hp
    gi_wp2
    refine ⟨by simp, .inl ⟨_, _, rfl, run_takeDeferred hK, ?_⟩⟩
    refine ⟨_, results_tmp rfl _ _ _, ?_⟩
    rw [HE.out]
    exact ⟨A, c, rfl, hr, hb⟩
  case stop =>
    rintro D c pre W hD hpre ⟨⟨⟨v, hv, hrow, _⟩, hM, hB⟩, rfl, hlen⟩ hK
    have hc := hv.cell
    have hrow2 := ownsRow_putObj hrow (.deferred none) hK rfl
    obtain ⟨A, c, hv', hr⟩ := own_slice hrow2
    subst hv'
    have he : (listN s).take (max 1 most.toNat) = pre := by
      rw [← hlen]; exact (List.prefix_iff_eq_take.1 hpre).symm
    have hb := hB.trans (belowK_b (w := w) (Nat.le_refl _) W D (.deferred (some [])) (.deferred none) (by simp at hD; omega) hK rfl rfl)
    have HE := Lib.hid he
    clear he hlen hpre
    gi_wp2
    refine ⟨by simp, .inl ⟨_, _, rfl, run_takeDeferred hK, ?_⟩⟩
    refine ⟨_, results_tmp rfl _ _ _, ?_⟩
    rw [HE.out]
    exact ⟨A, c, rfl, hr, hb⟩

theorem told_all (s : Nat) (hs : s < 256) (w : World) :
    Calls Try.prog 33 #[.int .u8 (s : Int), .int .i64 99] w fun e w' => RetNums w w' e (listN s) := by
  have h : (listN s).take (max 1 (99 : Int).toNat) = listN s := List.take_of_length_le (by rw [len_list]; have := lenN_le s; omega)
  have := told_any s hs 99 w
  rwa [h] at this

/-- 1, if a set has nodes. -/
def leastOne (x : Nat) : Nat := ((listN x).take 1).length
theorem leastOne_le (x : Nat) : leastOne x ≤ 1 := List.length_take_le _ _
theorem leastOne_eq (x : Nat) : ((leastOne x : Nat) : Int) = min 1 ((listN x).length : Int) := by
  unfold leastOne; rw [List.length_take]; omega
theorem told_1 (s : Nat) (hs : s < 256) (w : World) :
    Calls Try.prog 33 #[.int .u8 (s : Int), .int .i64 1] w fun e w' => ∃ A c, e = .returned (.slice A (leastOne s) c) ∧ Below w.heap.size w w' :=
  (told_any s hs 1 w).mono fun _ _ ⟨A, c, he, _, hb⟩ => ⟨A, c, he, hb⟩
end Go.Proofs.Ytghicjkponnceaa.Mem
