/- Plain laws: the reference's lists of nodes, and sets as numbers, agree. No program in sight. Conditions: none. -/
import Derived.Test.YtbamfnlgapchkaaMemPure
namespace Go.Proofs.Ytbamfnlgapchkaa.Mem

def listTo (x : Nat) (k : Nat) : List Nat := (List.range k).filter fun i => x.testBit i
def listN (x : Nat) : List Nat := listTo x 7
def hasL (l : List Nat) (n : Nat) : Bool := decide (n ∈ l)
def setTo (l : List Nat) : Nat → Nat
  | 0 => 0
  | k + 1 => setTo l k + if hasL l k then 2 ^ k else 0
def setN (l : List Nat) : Nat := setTo l 7
def pickL (a b : List Nat) (inn : Bool) : List Nat := a.filter fun x => hasL b x == inn

theorem listTo_yes (x k : Nat) (h : x.testBit k = true) : listTo x (k + 1) = listTo x k ++ [k] := by
  unfold listTo; rw [List.range_succ, List.filter_append]; simp [h]
theorem listTo_no (x k : Nat) (h : x.testBit k = false) : listTo x (k + 1) = listTo x k := by
  unfold listTo; rw [List.range_succ, List.filter_append]; simp [h]
theorem listTo_len (x k : Nat) : (listTo x k).length ≤ k := by
  have := List.length_filter_le (fun i => x.testBit i) (List.range k)
  simpa [listTo] using this
theorem mem_list (x i : Nat) : i ∈ listN x ↔ (i < 7 ∧ x.testBit i = true) := by simp [listN, listTo]
theorem list_lt (x : Nat) : ∀ i ∈ listN x, i < 256 := fun i h => by have := (mem_list x i).1 h; omega
theorem test_div (x k : Nat) : x.testBit k = decide (x / 2 ^ k % 2 = 1) := Nat.testBit_eq_decide_div_mod_eq

theorem setTo_lt (l : List Nat) (k : Nat) : setTo l k < 2 ^ k := by
  induction k with
  | zero => simp [setTo]
  | succ k ih => rw [setTo, Nat.pow_succ]; split <;> omega
theorem setTo_test (l : List Nat) (k i : Nat) : (setTo l k).testBit i = (decide (i < k) && hasL l i) := by
  induction k with
  | zero => simp [setTo]
  | succ k ih =>
    rw [setTo]
    have hlt := setTo_lt l k
    cases hk : hasL l k
    · simp only [Bool.false_eq_true, if_false, Nat.add_zero, ih]
      by_cases hi : i = k
      · subst hi; simp [hk]
      · have : decide (i < k + 1) = decide (i < k) := by rw [decide_eq_decide]; omega
        rw [this]
    · simp only [if_true]
      rw [Nat.add_comm]
      by_cases hi : i = k
      · subst hi
        rw [Nat.testBit_two_pow_add_eq, Nat.testBit_lt_two_pow hlt]
        simp [hk]
      · rcases Nat.lt_or_gt_of_ne hi with h | h
        · rw [Nat.testBit_two_pow_add_gt h, ih]
          simp [h, Nat.lt_succ_of_lt h]
        · rw [Nat.testBit_lt_two_pow (i := i) (Nat.lt_of_lt_of_le (by rw [Nat.pow_succ]; omega : 2 ^ k + setTo l k < 2 ^ (k + 1)) (Nat.pow_le_pow_right (by omega) (by omega)))]
          have : ¬ i < k + 1 := by omega
          simp [this]
theorem set_test (l : List Nat) (i : Nat) (hi : i < 7) : (setN l).testBit i = hasL l i := by
  unfold setN; rw [setTo_test]; simp [hi]
theorem set_lt (l : List Nat) : setN l < 128 := setTo_lt l 7
theorem has_list (x i : Nat) (hi : i < 7) : hasL (listN x) i = x.testBit i := by
  unfold hasL
  rw [Bool.eq_iff_iff]
  simp [mem_list, hi]

theorem len_list (x : Nat) : (listN x).length = lenN x := by
  have step : ∀ k, (listTo x (k + 1)).length = (listTo x k).length + bt x k := by
    intro k
    cases h : x.testBit k
    · rw [listTo_no x k h]; simp [bt, h]
    · rw [listTo_yes x k h]; simp [bt, h]
  unfold listN
  rw [step, step, step, step, step, step, step]
  simp [listTo, lenN]
theorem pick_list (x y : Nat) (inn : Bool) : ∀ i, i ∈ pickL (listN x) (listN y) inn ↔ (i < 7 ∧ x.testBit i = true ∧ y.testBit i = inn) := by
  intro i
  unfold pickL
  rw [List.mem_filter, mem_list]
  constructor
  · rintro ⟨⟨h1, h2⟩, h3⟩
    rw [has_list y i h1] at h3
    exact ⟨h1, h2, by simpa using h3⟩
  · rintro ⟨h1, h2, h3⟩
    exact ⟨⟨h1, h2⟩, by rw [has_list y i h1]; simpa using h3⟩
theorem pick_both (x y : Nat) : pickL (listN x) (listN y) true = listN (bothN x y) := by
  unfold pickL listN listTo
  rw [List.filter_filter]
  apply List.filter_congr
  intro i hi
  have hi' : i < 7 := by simpa using hi
  have h := has_list y i hi'
  unfold listN listTo at h
  rw [h, test_both x y i hi']
  cases x.testBit i <;> cases y.testBit i <;> decide
theorem pick_without (x y : Nat) (hy : y < 256) : pickL (listN x) (listN y) false = listN (withoutN x y) := by
  unfold pickL listN listTo
  rw [List.filter_filter]
  apply List.filter_congr
  intro i hi
  have hi' : i < 7 := by simpa using hi
  have h := has_list y i hi'
  unfold listN listTo at h
  rw [h, test_without x y i hy hi']
  cases x.testBit i <;> cases y.testBit i <;> decide
theorem set_list (x : Nat) (hx : x < 128) : setN (listN x) = x :=
  eq_of_bits _ _ (set_lt _) hx fun i hi => by rw [set_test _ i hi, has_list x i hi]
theorem set_with (x y : Nat) : setN (listN x ++ listN y) = withN x y :=
  eq_of_bits _ _ (set_lt _) (with_lt _ _) fun i hi => by
    rw [set_test _ i hi, test_with x y i hi, ← has_list x i hi, ← has_list y i hi]
    unfold hasL
    rw [Bool.eq_iff_iff]
    simp
theorem set_both (x y : Nat) : setN (pickL (listN x) (listN y) true) = bothN x y := by rw [pick_both, set_list _ (both_lt _ _)]
theorem set_without (x y : Nat) (hy : y < 256) : setN (pickL (listN x) (listN y) false) = withoutN x y := by rw [pick_without _ _ hy, set_list _ (without_lt _ _)]

def majorL (l have_ : List Nat) : Bool := decide (l.length < 2 * (pickL l have_ true).length)
def mayL (l all : List Nat) : Bool := decide (0 < l.length) && decide ((pickL l all false).length = 0)
theorem major_list (x y : Nat) : majorL (listN x) (listN y) = majorB x y := by
  unfold majorL majorB needN
  rw [pick_both, len_list, len_list, decide_eq_decide]
  omega
theorem len_zero (x : Nat) (hx : x < 128) : lenN x = 0 ↔ x = 0 := by
  constructor
  · intro h
    refine eq_of_bits _ _ hx (by omega) fun i hi => ?_
    have hb : ∀ j, j < 7 → bt x j = 0 := by
      intro j hj
      unfold lenN at h
      match j, hj with
      | 0, _ | 1, _ | 2, _ | 3, _ | 4, _ | 5, _ | 6, _ => omega
    have := hb i hi
    unfold bt at this
    cases ht : x.testBit i
    · simp
    · rw [ht] at this; cases this
  · rintro rfl; decide
theorem may_list (x y : Nat) (hy : y < 256) : mayL (listN x) (listN y) = mayB x y := by
  unfold mayL mayB
  rw [pick_without _ _ hy, len_list, len_list]
  congr 1
  rw [decide_eq_decide]
  exact len_zero _ (without_lt _ _)

/-! What the statement MemberAlgebra asks of two sets. -/
theorem mem_of (l : List Nat) (i : Nat) (hi : i < 7) : (ofN l).testBit i = decide (i ∈ l) := by
  induction l with
  | nil => simp [ofN]
  | cons m l ih =>
    rw [ofN, Nat.testBit_or, ih, test_one]
    by_cases h : m = i
    · subst h; simp [hi]
    · have h' : ¬ i = m := fun e => h e.symm
      simp [h, h']
theorem of_list (s : Nat) (hs : s < 128) : ofN (listN s) = s :=
  eq_of_bits _ _ (of_lt _) hs fun i hi => by
    rw [mem_of _ i hi, Bool.eq_iff_iff, decide_eq_true_eq, mem_list]; simp [hi]
theorem with_lt' (a b : Nat) : withN a b < 256 := by have := with_lt a b; omega
theorem both_lt' (a b : Nat) : bothN a b < 256 := by have := both_lt a b; omega
theorem without_lt' (a b : Nat) : withoutN a b < 256 := by have := without_lt a b; omega
theorem alg_split (s o : Nat) (hs : s < 128) (ho : o < 256) : withN (withoutN s o) (bothN s o) = s :=
  eq_of_bits _ _ (with_lt _ _) hs fun i hi => by
    rw [test_with _ _ i hi, test_without _ _ i ho hi, test_both _ _ i hi]
    cases s.testBit i <;> cases o.testBit i <;> decide
theorem alg_apart (s o : Nat) (ho : o < 256) : bothN (withoutN s o) (bothN s o) = 0 :=
  eq_of_bits _ _ (both_lt _ _) (by omega) fun i hi => by
    rw [test_both _ _ i hi, test_without _ _ i ho hi, test_both _ _ i hi]
    cases s.testBit i <;> cases o.testBit i <;> simp
theorem alg_len (s o : Nat) (ho : o < 256) : lenN (withoutN s o) + lenN (bothN s o) = lenN s := by
  have h : ∀ i, i < 7 → bt (withoutN s o) i + bt (bothN s o) i = bt s i := by
    intro i hi
    rw [bt_without _ _ i ho hi, bt_both _ _ i hi]
    unfold bt
    cases s.testBit i <;> cases o.testBit i <;> decide
  obtain ⟨g0, g1, g2, g3, g4, g5, g6⟩ := seven h
  unfold lenN
  omega
theorem alg_comm (s o : Nat) : withN s o = withN o s := by unfold withN; rw [Nat.or_comm]
theorem alg_sum (s o : Nat) : lenN (withN s o) + lenN (bothN s o) = lenN s + lenN o := by
  have h : ∀ i, i < 7 → bt (withN s o) i + bt (bothN s o) i = bt s i + bt o i := by
    intro i hi
    rw [bt_with _ _ i hi, bt_both _ _ i hi]
    unfold bt
    cases s.testBit i <;> cases o.testBit i <;> decide
  obtain ⟨g0, g1, g2, g3, g4, g5, g6⟩ := seven h
  unfold lenN
  omega
theorem has_big (s n : Nat) (hn : 7 ≤ n) : hasB s n = false := by
  unfold hasB
  have : ofN [n] = 0 := by simp [ofN, oneN]; omega
  rw [this]; simp
theorem has_bit' (s k : Nat) (hk : k < 7) : hasB s k = s.testBit k := by
  unfold hasB
  rw [of_one]
  cases h : s.testBit k
  · have : s &&& oneN k = 0 := by
      apply Nat.eq_of_testBit_eq
      intro i
      rw [Nat.testBit_and, test_one]
      by_cases hi : k = i
      · subst hi; simp [h]
      · simp [hi]
    simp [this]
  · have : s &&& oneN k ≠ 0 := by
      intro h0
      have := congrArg (fun x => x.testBit k) h0
      simp [Nat.testBit_and, test_one, h, hk] at this
    simp [this]
theorem has_with (s o n : Nat) : hasB (withN s o) n = (hasB s n || hasB o n) := by
  by_cases hn : n < 7
  · rw [has_bit' _ n hn, has_bit' _ n hn, has_bit' _ n hn, test_with _ _ n hn]
  · rw [has_big _ n (by omega), has_big _ n (by omega), has_big _ n (by omega)]; rfl
theorem has_both (s o n : Nat) : hasB (bothN s o) n = (hasB s n && hasB o n) := by
  by_cases hn : n < 7
  · rw [has_bit' _ n hn, has_bit' _ n hn, has_bit' _ n hn, test_both _ _ n hn]
  · rw [has_big _ n (by omega), has_big _ n (by omega), has_big _ n (by omega)]; rfl
theorem has_without (s o n : Nat) (ho : o < 256) : hasB (withoutN s o) n = (hasB s n && !hasB o n) := by
  by_cases hn : n < 7
  · rw [has_bit' _ n hn, has_bit' _ n hn, has_bit' _ n hn, test_without _ _ n ho hn]
  · rw [has_big _ n (by omega), has_big _ n (by omega), has_big _ n (by omega)]; rfl
theorem both_self (s : Nat) (hs : s < 128) : bothN s s = s :=
  eq_of_bits _ _ (both_lt _ _) hs fun i hi => by rw [test_both _ _ i hi, Bool.and_self]
theorem without_self (s : Nat) (hs : s < 256) : withoutN s s = 0 :=
  eq_of_bits _ _ (without_lt _ _) (by omega) fun i hi => by rw [test_without _ _ i hs hi]; simp
theorem major_self (s : Nat) (hs : s < 128) (h : lenN s ≠ 0) : majorB s s = true := by
  unfold majorB needN; rw [both_self s hs]; simp; omega
theorem may_self (s : Nat) (hs : s < 128) : mayB s s = decide (0 < lenN s) := by
  unfold mayB; rw [without_self s (by omega)]; simp
theorem major_of (s o : Nat) (h : ¬ lenN (bothN s o) < needN s) : majorB s o = true := by
  unfold majorB; simp; omega
theorem len_with0 (x : Nat) : lenN (withN x 0) = lenN x := by
  unfold lenN
  rw [bt_with _ _ 0 (by omega), bt_with _ _ 1 (by omega), bt_with _ _ 2 (by omega), bt_with _ _ 3 (by omega), bt_with _ _ 4 (by omega), bt_with _ _ 5 (by omega), bt_with _ _ 6 (by omega)]
  simp [bt]

/-! What the statement MemberTells asks of a list of nodes. -/
theorem of_set (l : List Nat) : ofN l = setN l :=
  eq_of_bits _ _ (of_lt _) (set_lt _) fun i hi => by rw [mem_of _ i hi, set_test _ i hi]; rfl
theorem has_ref (x n : Nat) : hasB x n = hasL (listN x) n := by
  by_cases hn : n < 7
  · rw [has_bit' _ n hn, has_list _ n hn]
  · rw [has_big _ n (by omega)]
    unfold hasL
    have : ¬ n ∈ listN x := fun h => by have := (mem_list x n).1 h; omega
    simp [this]
def clampN (n : Int) : Nat := (min (max n 0) 7).toNat
theorem first_set (n : Int) : firstN n = setN (List.range (clampN n)) := by
  refine eq_of_bits _ _ ?_ (set_lt _) fun i hi => ?_
  · unfold firstN
    generalize hd : (min (max n 0) 7).toNat = d
    have h7 : d ≤ 7 := by omega
    clear hd
    match d, h7 with
    | 0, _ | 1, _ | 2, _ | 3, _ | 4, _ | 5, _ | 6, _ | 7, _ => decide
  · rw [set_test _ i hi]
    unfold firstN clampN hasL
    rw [Nat.testBit_two_pow_sub_one]
    simp
theorem told_one (x : Nat) : ((listN x).take (max 1 (1 : Int).toNat)).length = min 1 (listN x).length := by simp
end Go.Proofs.Ytbamfnlgapchkaa.Mem
