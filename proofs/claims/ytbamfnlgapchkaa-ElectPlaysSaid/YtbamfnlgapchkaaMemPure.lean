/- Plain laws on sets of nodes as numbers below 256: no program in sight. Conditions: none. -/
import Derived.Laws.BitsAllLaws
namespace Go.Proofs.Ytbamfnlgapchkaa.Mem

/-- The bit i of x, as a number. -/
def bt (x i : Nat) : Nat := (x.testBit i).toNat
def lenN (x : Nat) : Nat := bt x 0 + bt x 1 + bt x 2 + bt x 3 + bt x 4 + bt x 5 + bt x 6
def withN (a b : Nat) : Nat := (a ||| b) &&& 127
def bothN (a b : Nat) : Nat := (a &&& b) &&& 127
def withoutN (a b : Nat) : Nat := (a &&& (255 - b)) &&& 127
def needN (a : Nat) : Nat := lenN a / 2 + 1
def majorB (s h : Nat) : Bool := decide (needN s ≤ lenN (bothN s h))
def mayB (s a : Nat) : Bool := decide (0 < lenN s) && decide (withoutN s a = 0)
/-- One node as a set. -/
def oneN (m : Nat) : Nat := if m < 7 then 1 <<< m else 0
def ofN : List Nat → Nat
  | [] => 0
  | m :: l => oneN m ||| ofN l
def hasB (s n : Nat) : Bool := !(decide (s &&& ofN [n] = 0))

def firstN (n : Int) : Nat := 2 ^ (min (max n 0) 7).toNat - 1

theorem bt127 (i : Nat) (h : i < 7) : Nat.testBit 127 i = true := by
  match i, h with
  | 0, _ | 1, _ | 2, _ | 3, _ | 4, _ | 5, _ | 6, _ => decide
theorem bt_le (x i : Nat) : bt x i ≤ 1 := by unfold bt; cases x.testBit i <;> decide
theorem lenN_le (x : Nat) : lenN x ≤ 7 := by
  unfold lenN
  have := bt_le x 0; have := bt_le x 1; have := bt_le x 2; have := bt_le x 3; have := bt_le x 4; have := bt_le x 5; have := bt_le x 6
  omega
theorem with_lt (a b : Nat) : withN a b < 128 := by
  unfold withN; exact Nat.lt_of_le_of_lt Nat.and_le_right (by omega)
theorem both_lt (a b : Nat) : bothN a b < 128 := by
  unfold bothN; exact Nat.lt_of_le_of_lt Nat.and_le_right (by omega)
theorem without_lt (a b : Nat) : withoutN a b < 128 := by
  unfold withoutN; exact Nat.lt_of_le_of_lt Nat.and_le_right (by omega)
theorem one_lt (m : Nat) : oneN m < 128 := by
  unfold oneN
  split
  · rename_i h
    match m, h with
    | 0, _ | 1, _ | 2, _ | 3, _ | 4, _ | 5, _ | 6, _ => decide
  · omega
theorem of_lt (l : List Nat) : ofN l < 128 := by
  induction l with
  | nil => decide
  | cons m l ih => exact Nat.or_lt_two_pow (n := 7) (one_lt m) ih

theorem bt_and (a b i : Nat) : bt (a &&& b) i = bt a i * bt b i := by
  unfold bt; rw [Nat.testBit_and]; cases a.testBit i <;> cases b.testBit i <;> decide
theorem bt_or (a b i : Nat) : bt (a ||| b) i = bt a i + bt b i - bt a i * bt b i := by
  unfold bt; rw [Nat.testBit_or]; cases a.testBit i <;> cases b.testBit i <;> decide
theorem test255 (b i : Nat) (hb : b < 256) (h : i < 7) : (255 - b).testBit i = !b.testBit i := by
  rw [show 255 - b = 2 ^ 8 - (b + 1) from by omega, Nat.testBit_two_pow_sub_succ (by omega)]
  have : i < 8 := by omega
  simp [this]
theorem bt_with (a b i : Nat) (h : i < 7) : bt (withN a b) i = (a.testBit i || b.testBit i).toNat := by
  unfold withN bt; rw [Nat.testBit_and, Nat.testBit_or, bt127 i h, Bool.and_true]
theorem bt_both (a b i : Nat) (h : i < 7) : bt (bothN a b) i = (a.testBit i && b.testBit i).toNat := by
  unfold bothN bt; rw [Nat.testBit_and, Nat.testBit_and, bt127 i h, Bool.and_true]
theorem bt_without (a b i : Nat) (hb : b < 256) (h : i < 7) : bt (withoutN a b) i = (a.testBit i && !b.testBit i).toNat := by
  unfold withoutN bt; rw [Nat.testBit_and, Nat.testBit_and, bt127 i h, Bool.and_true, test255 b i hb h]
theorem test_with (a b i : Nat) (h : i < 7) : (withN a b).testBit i = (a.testBit i || b.testBit i) := by
  unfold withN; rw [Nat.testBit_and, Nat.testBit_or, bt127 i h, Bool.and_true]
theorem test_both (a b i : Nat) (h : i < 7) : (bothN a b).testBit i = (a.testBit i && b.testBit i) := by
  unfold bothN; rw [Nat.testBit_and, Nat.testBit_and, bt127 i h, Bool.and_true]
theorem test_without (a b i : Nat) (hb : b < 256) (h : i < 7) : (withoutN a b).testBit i = (a.testBit i && !b.testBit i) := by
  unfold withoutN; rw [Nat.testBit_and, Nat.testBit_and, bt127 i h, Bool.and_true, test255 b i hb h]
theorem test_high (x i : Nat) (hx : x < 128) (h : 7 ≤ i) : x.testBit i = false :=
  Nat.testBit_lt_two_pow (Nat.lt_of_lt_of_le hx (Nat.pow_le_pow_right (n := 2) (by omega) h : 2 ^ 7 ≤ 2 ^ i))
/-- Two sets below 128 that have the same nodes are the same. -/
theorem eq_of_bits (x y : Nat) (hx : x < 128) (hy : y < 128) (h : ∀ i, i < 7 → x.testBit i = y.testBit i) : x = y := by
  apply Nat.eq_of_testBit_eq
  intro i
  by_cases hi : i < 7
  · exact h i hi
  · rw [test_high x i hx (by omega), test_high y i hy (by omega)]

/-- Sum over the seven nodes of what holds of each one. -/
theorem seven {P : Nat → Prop} (h : ∀ i, i < 7 → P i) : P 0 ∧ P 1 ∧ P 2 ∧ P 3 ∧ P 4 ∧ P 5 ∧ P 6 :=
  ⟨h 0 (by omega), h 1 (by omega), h 2 (by omega), h 3 (by omega), h 4 (by omega), h 5 (by omega), h 6 (by omega)⟩

theorem test_one (m i : Nat) : (oneN m).testBit i = (decide (m < 7) && decide (m = i)) := by
  unfold oneN
  by_cases h : m < 7
  · rw [if_pos h, Nat.shiftLeft_eq, Nat.one_mul, Nat.testBit_two_pow]
    simp [h]
  · simp [h]
theorem len_one (m : Nat) : lenN (oneN m) ≤ 1 := by
  by_cases h : m < 7
  · match m, h with
    | 0, _ | 1, _ | 2, _ | 3, _ | 4, _ | 5, _ | 6, _ => decide
  · have : oneN m = 0 := by unfold oneN; rw [if_neg h]
    rw [this]; decide
theorem of_one (m : Nat) : ofN [m] = oneN m := by simp [ofN]

/-- TWO MAJORITIES OF ONE SET MEET. -/
theorem meet_one (s p q : Nat) (h1 : majorB s p = true) (h2 : majorB s q = true) : lenN (bothN (bothN p q) s) ≠ 0 := by
  unfold majorB needN at h1 h2
  simp only [decide_eq_true_eq] at h1 h2
  have h : ∀ i, i < 7 → bt (bothN s p) i + bt (bothN s q) i ≤ bt s i + bt (bothN (bothN p q) s) i := by
    intro i hi
    rw [bt_both _ _ i hi, bt_both _ _ i hi, bt_both _ _ i hi, test_both _ _ i hi]
    unfold bt
    cases s.testBit i <;> cases p.testBit i <;> cases q.testBit i <;> decide
  obtain ⟨g0, g1, g2, g3, g4, g5, g6⟩ := seven h
  unfold lenN at h1 h2 ⊢
  omega

/-- TWO MAJORITIES OF TWO SETS MEET, one of which has at most one node more. -/
theorem meet_more (s e p q : Nat) (he : lenN e ≤ 1) (h1 : majorB s p = true) (h2 : majorB (withN s e) q = true) : lenN (bothN (bothN p q) (withN s e)) ≠ 0 := by
  unfold majorB needN at h1 h2
  simp only [decide_eq_true_eq] at h1 h2
  have h : ∀ i, i < 7 → bt (bothN s p) i + bt (bothN (withN s e) q) i ≤ bt (withN s e) i + bt (bothN (bothN p q) (withN s e)) i ∧ bt (withN s e) i ≤ bt s i + bt e i ∧ bt s i ≤ bt (withN s e) i := by
    intro i hi
    rw [bt_both _ _ i hi, bt_both _ _ i hi, bt_both _ _ i hi, test_both _ _ i hi, test_with _ _ i hi, bt_with _ _ i hi]
    unfold bt
    cases s.testBit i <;> cases p.testBit i <;> cases q.testBit i <;> cases e.testBit i <;> decide
  obtain ⟨g0, g1, g2, g3, g4, g5, g6⟩ := seven h
  unfold lenN at h1 h2 he ⊢
  omega

/-- What is left of a set beside a majority is no majority. -/
theorem meet_not (s p q : Nat) (hp : p < 256) (h1 : majorB s p = true) : majorB s (withoutN q p) = false := by
  unfold majorB needN at h1 ⊢
  simp only [decide_eq_true_eq, decide_eq_false_iff_not] at h1 ⊢
  have h : ∀ i, i < 7 → bt (bothN s p) i + bt (bothN s (withoutN q p)) i ≤ bt s i := by
    intro i hi
    rw [bt_both _ _ i hi, bt_both _ _ i hi, test_without _ _ i hp hi]
    unfold bt
    cases s.testBit i <;> cases p.testBit i <;> cases q.testBit i <;> decide
  obtain ⟨g0, g1, g2, g3, g4, g5, g6⟩ := seven h
  unfold lenN at h1 ⊢
  omega
end Go.Proofs.Ytbamfnlgapchkaa.Mem
