/- The nodes that a set tells, one by one, and the list that the statements collect of them. Conditions: the arguments are of their types. -/
import Derived.Test.YtbamfnlgapchkaaMemRef
import Derived.Test.YtbamfnlgapchkaaRange
import Derived.Shelf.Abstract
import Derived.OwnWalkIn
import Derived.TacticsInMore
import Derived.LoopNIn
import Derived.LoopIn
namespace Go.Proofs.Ytbamfnlgapchkaa.Mem
open Go.RowKit Go.Shelf

attribute [local go_sem] Oper.semAt_some

theorem has_bit (s k : Nat) (hk : k < 7) : hasB s k = s.testBit k := by
  unfold hasB
  rw [of_one]
  cases h : s.testBit k
  · have : s &&& oneN k = 0 := by
      apply Nat.eq_of_testBit_eq
      intro i
      rw [Nat.testBit_and, test_one]
      by_cases hi : k = i
      · subst hi; simp [h]
      · simp [hi]
    simp [this]
  · have : s &&& oneN k ≠ 0 := by
      intro h0
      have := congrArg (fun x => x.testBit k) h0
      simp [Nat.testBit_and, test_one, h, hk] at this
    simp [this]

theorem listTo_prefix (s k : Nat) (hk : k ≤ 7) : listTo s k <+: listN s := by
  have h : ∀ d, listTo s k <+: listTo s (k + d) := by
    intro d
    induction d with
    | zero => exact List.prefix_refl _
    | succ d ih =>
      refine List.IsPrefix.trans ih ?_
      rw [show k + (d + 1) = k + d + 1 from rfl]
      cases ht : s.testBit (k + d)
      · rw [listTo_no s _ ht]; exact List.prefix_refl _
      · rw [listTo_yes s _ ht]; exact List.prefix_append _ _
  have := h (7 - k)
  rwa [show k + (7 - k) = 7 from by omega] at this

/-- What has come when the loop of 'each' stands at k. -/
def EachAt (s : Nat) (J : List Nat → World → Prop) (i : Value) (wr : World) : Prop :=
  ∃ k : Nat, k ≤ 7 ∧ i = .int .u8 (k : Int) ∧ J (listTo s k) wr

set_option maxRecDepth 100000 in
set_option maxHeartbeats 2000000 in
theorem each_in (n : Nat) (s : Nat) (hs : s < 256) (l : Nat) (Kp : World → World → Prop) (J Jx : List Nat → World → Prop) (W : World)
    (hJ : ∀ (X : World) (o : Obj) (pre : List Nat), J pre X → J pre (X.alloc o))
    (hY : ∀ (pre : List Nat) (x : Nat) (W1 : World), J pre W1 → pre.length < 7 → YieldAt Fence.wide (n - 1) Try.prog l #[.int .u8 (x : Int)] W1 fun e W' =>
      (e = .returned (.bool true) ∧ J (pre ++ [x]) W' ∧ Kp W1 W') ∨ (e = .returned (.bool false) ∧ Jx (pre ++ [x]) W')) (h0 : J [] W) :
    CallsIn Fence.wide n Try.prog 96 #[.int .u8 (s : Int), .func (.yield l) #[] #[]] W fun e W' => (∃ v, e = .returned v) ∧ ((∃ xs, xs = listN s ∧ J xs W') ∨ (∃ pre, pre <+: listN s ∧ Jx pre W')) := by
  refine callsIn_of_wp Try.func96 rfl trivial ?_ rfl
  simp only [Try.ntmps96, List.size_toArray, List.length_cons, List.length_nil, Nat.reduceAdd, Nat.reduceSub, Array.replicate_succ, Array.replicate_zero, List.push_toArray, List.append_toArray, List.nil_append, List.cons_append]
  gi_wp2
  gi_loopw [5] (fun i wr => EachAt s J i wr) (fun i wr => 7 - (intOf i).toNat)
  case atStart => exact ⟨0, by omega, rfl, h0⟩
  case round =>
    obtain ⟨k, hk, rfl, hJs⟩ := hrel
    by_cases hlt : k < 7
    · have hJ2 := hJ wr (.cells #[.int .u8 (k : Int)] 5) _ hJs
      have hlen := listTo_len s k
      have hbit := has_bit s k hlt
      cases ht : s.testBit k
      · have hh : hasB s k = false := hbit.trans ht
        have HT := Lib.hid (listTo_no s k ht)
        have HJ := Lib.hid hJ2
        have HY := Lib.hid hY
        clear hJ2 hY hJ hJs hbit ht h0
        gi_wp2_with (refine ⟨trivial, (fun h => by cases h), ?_⟩; gi_at_call 46; refine (callsIn_wide.2 (has_any s k hs (by omega) _)).mono ?_; rintro e w' ⟨rfl, rfl⟩)
        refine ⟨(fun _ h => by cases h), ?_⟩
        gi_wp2
        exact ⟨⟨k + 1, by omega, by go_num, by rw [HT.out]; exact HJ.out⟩, by simp [intOf]; omega⟩
      · have hh : hasB s k = true := hbit.trans ht
        have HT := Lib.hid (listTo_yes s k ht)
        obtain ⟨fn, tmps, assign, body, hy, hR⟩ := hY _ k _ hJ2 (by omega)
        have HR := Lib.hid hR
        have HP := Lib.hid (listTo_prefix s (k + 1) (by omega))
        clear hJ2 hY hJ hJs hbit ht h0 hR
        gi_wp2_with (refine ⟨trivial, (fun h => by cases h), ?_⟩; gi_at_call 46; refine (callsIn_wide.2 (has_any s k hs (by omega) _)).mono ?_; rintro e w' ⟨rfl, rfl⟩)
        refine ⟨(fun h => by cases h), ?_⟩
        refine HR.out.mono ?_
        rintro e W3 (⟨rfl, hJ3, _⟩ | ⟨rfl, hJ3⟩)
        · gi_wp2
          exact ⟨⟨k + 1, by omega, by go_num, by rw [HT.out]; exact hJ3⟩, by simp [intOf]; omega⟩
        · gi_wp2
          refine bodyPost_ret (results_none rfl _ _ _) rfl ?_
          exact ⟨⟨_, rfl⟩, .inr ⟨_, by rw [← HT.out]; exact HP.out, hJ3⟩⟩
    · obtain rfl : k = 7 := by omega
      gi_wp2
      go_end0
      exact ⟨⟨_, rfl⟩, .inl ⟨_, rfl, hJs⟩⟩

theorem each_stops (n : Nat) (s : Nat) (hs : s < 256) (Kp : World → World → Prop) (w : World) :
    SeqStopsB Fence.wide n Try.prog 96 #[.int .u8 (s : Int)] #[] (fun x : Nat => #[Value.int .u8 (x : Int)]) Kp (fun xs => xs = listN s) (fun pre => pre <+: listN s) 7 w := fun l J Jx W _ hJ _ hY h0 => by
  have h := each_in n s hs l Kp J Jx W (fun X o pre hx => hJ pre X (X.alloc o) none hx (World.grownBy_alloc _ _ none) (fun r e => by cases e)) hY h0
  simpa using h

theorem all_any (s : Nat) (w : World) :
    Calls Try.prog 92 #[.int .u8 (s : Int)] w fun e w' => e = .returned (.func (.func 96) #[.int .u8 (s : Int)] #[]) ∧ w = w' := by
  go_enter Try.func92, Try.ntmps92
  go_wp2
  go_ret
  exact ⟨rfl, rfl⟩

/-- What the statements' list of a set's nodes holds between two rounds. -/
def ToldAt (most : Int) (w : World) (pre : List Nat) (W : World) : Prop :=
  (∃ v, Boxed W (w.heap.size + 1) 22 v ∧ W.ownsRow w.heap.size 5 1 v pre.length (pre.map u8v) ∧ True) ∧ (Boxed W w.heap.size 3 (.int .i64 most) ∧ Below w.heap.size w W)
theorem told_own (most : Int) (w : World) (B : Nat) (hB : w.heap.size ≤ B) : OwnFrom B (ToldAt most w) :=
  OwnFrom.and (Own.from (holdsRow_own w.heap.size (w.heap.size + 1) 22 5 1 (fun pre : List Nat => pre.length) (fun pre => pre.map u8v) (fun _ _ => True)) _)
    (OwnFrom.and (Own.from (boxed_own w.heap.size 3 (fun _ => .int .i64 most)) _) (ownFrom_below (Nat.le_refl _) hB))
/-- A round goes on while fewer than 'most' have come. -/
def ToldI (most : Int) (w : World) (pre : List Nat) (W : World) : Prop := ToldAt most w pre W ∧ (pre = [] ∨ (pre.length : Int) < most)
def ToldX (most : Int) (w : World) (c : Code) (pre : List Nat) (W : World) : Prop := ToldAt most w pre W ∧ (c = .exit 0 ∧ pre.length = max 1 most.toNat)


/-- 1, if a set has nodes. -/
def leastOne (x : Nat) : Nat := ((listN x).take 1).length
theorem leastOne_le (x : Nat) : leastOne x ≤ 1 := List.length_take_le _ _
theorem leastOne_eq (x : Nat) : ((leastOne x : Nat) : Int) = min 1 ((listN x).length : Int) := by
  unfold leastOne; rw [List.length_take]; omega
end Go.Proofs.Ytbamfnlgapchkaa.Mem
