/- Chains of directories in plain Lean: what they tell, and how they turn. No program in sight. No conditions. -/
import Derived.Test.YtbamfnlgapchkaaMemRefPure
namespace Go.Proofs.Ytbamfnlgapchkaa.Chn
open Mem

/-- The slot behind which the first directory lies; the directories. -/
structure Ch where
  low : Nat
  dirs : List Nat
def dirB (s : Nat) : Bool := decide (0 < s ∧ s < 128)
theorem and127 (s : Nat) : s &&& 127 = s % 128 := Nat.and_two_pow_sub_one_eq_mod s 7
theorem both_mod (s : Nat) : bothN s s = s % 128 := by unfold bothN; rw [Nat.and_self, and127]
theorem dir_eq (s : Nat) (_hs : s < 256) : (decide (0 < lenN s) && decide (bothN s s = s)) = dirB s := by
  rw [both_mod]
  unfold dirB
  by_cases h : s < 128
  · have h1 := len_zero s h
    rw [Nat.mod_eq_of_lt h]
    by_cases h0 : s = 0
    · subst h0
      have := h1.2 rfl
      simp [this]
    · have : lenN s ≠ 0 := fun e => h0 (h1.1 e)
      have h2 : 0 < lenN s := by omega
      have h3 : 0 < s := by omega
      simp [h2, h3, h]
  · have : s % 128 ≠ s := by omega
    simp [this, h]
def Ch.top (c : Ch) : Nat := c.low + c.dirs.length - 1
/-- A chain as it may be. -/
structure Ch.Ok (c : Ch) : Prop where
  ne : 0 < c.dirs.length
  len : c.dirs.length ≤ 1000
  dir : ∀ s ∈ c.dirs, dirB s = true
  up : c.top ≤ 4611686018427387904
def Ch.at_ (c : Ch) (slot : Nat) : Nat × Bool := if slot = 0 ∨ slot - 3 < c.low ∨ c.top < slot - 3 then (0, false) else (c.dirs.getD (slot - 3 - c.low) 0, true)
theorem at_yes {c : Ch} {slot : Nat} (h0 : slot ≠ 0) (h1 : c.low ≤ slot - 3) (h2 : slot - 3 ≤ c.top) : c.at_ slot = (c.dirs.getD (slot - 3 - c.low) 0, true) := by
  unfold Ch.at_
  rw [if_neg (by omega)]
theorem at_no {c : Ch} {slot : Nat} (h : slot = 0 ∨ slot - 3 < c.low ∨ c.top < slot - 3) : c.at_ slot = (0, false) := by
  unfold Ch.at_
  rw [if_pos h]
theorem at_iff {c : Ch} {slot : Nat} : (c.at_ slot).2 = true ↔ slot ≠ 0 ∧ c.low ≤ slot - 3 ∧ slot - 3 ≤ c.top := by
  unfold Ch.at_
  split
  · simp; omega
  · simp; omega
theorem at_mem {c : Ch} (hc : c.Ok) {slot : Nat} (h : (c.at_ slot).2 = true) : (c.at_ slot).1 ∈ c.dirs := by
  obtain ⟨h0, h1, h2⟩ := at_iff.1 h
  rw [at_yes h0 h1 h2]
  have hl : slot - 3 - c.low < c.dirs.length := by have := hc.ne; unfold Ch.top at h2; omega
  show c.dirs.getD _ 0 ∈ c.dirs
  rw [List.getD_eq_getElem?_getD, List.getElem?_eq_getElem hl]
  exact List.getElem_mem hl
theorem at_lt {c : Ch} (hc : c.Ok) (slot : Nat) : (c.at_ slot).1 < 128 := by
  cases h : (c.at_ slot).2
  · unfold Ch.at_ at h ⊢
    split
    · show 0 < 128; omega
    · rename_i hn; rw [if_neg hn] at h; cases h
  · have := hc.dir _ (at_mem hc h)
    unfold dirB at this
    exact (of_decide_eq_true this).2
def Ch.push (c : Ch) (s : Nat) : Ch × Nat := if dirB s = false then (c, 2) else if 4611686018427387904 ≤ c.top then (c, 7) else (⟨c.low, c.dirs ++ [s]⟩, 0)
def Ch.release (c : Ch) (base : Nat) : Ch × Nat := if c.top < base then (c, 13) else if c.low < base - 2 then (⟨base - 2, c.dirs.drop (base - 2 - c.low)⟩, 0) else (c, 0)
def Ch.tail (c : Ch) : List Nat := c.dirs.drop (c.dirs.length - 3)
/-- Of which top and tail there is a chain. -/
def ofOk (top : Nat) (tail : List Nat) : Bool := decide (top ≤ 4611686018427387904 ∧ tail.length = min (top + 1) 3) && tail.all dirB
def ofCh (top : Nat) (tail : List Nat) : Ch := ⟨top + 1 - tail.length, tail⟩
theorem new_ok {s : Nat} (h : dirB s = true) : Ch.Ok ⟨0, [s]⟩ := ⟨by simp, by simp, by simpa using h, by unfold Ch.top; simp⟩
theorem push_top {c : Ch} (hc : c.Ok) (s : Nat) : (⟨c.low, c.dirs ++ [s]⟩ : Ch).top = c.top + 1 := by
  unfold Ch.top
  have := hc.ne
  simp
  omega
theorem push_ok {c : Ch} (hc : c.Ok) (hl : c.dirs.length < 1000) (s : Nat) : (c.push s).1.Ok := by
  unfold Ch.push
  split
  · exact hc
  · rename_i h1
    split
    · exact hc
    · rename_i h2
      have h1 : dirB s = true := by simpa using h1
      refine ⟨by simp, by simp; omega, fun x hx => ?_, by rw [push_top hc]; omega⟩
      rcases List.mem_append.1 hx with h | h
      · exact hc.dir x h
      · rw [List.mem_singleton.1 h]; exact h1
theorem release_ok {c : Ch} (hc : c.Ok) (base : Nat) : (c.release base).1.Ok := by
  unfold Ch.release
  split
  · exact hc
  · rename_i h1
    split
    · rename_i h2
      have hn := hc.ne
      have hl := hc.len
      have hu := hc.up
      unfold Ch.top at h1 hu
      refine ⟨by simp; omega, by simp; omega, fun x hx => hc.dir x (List.mem_of_mem_drop hx), ?_⟩
      unfold Ch.top
      simp
      omega
    · exact hc
theorem of_ok {top : Nat} {tail : List Nat} (h : ofOk top tail = true) : (ofCh top tail).Ok ∧ (ofCh top tail).top = top := by
  unfold ofOk at h
  rw [Bool.and_eq_true] at h
  obtain ⟨h1, h2⟩ := of_decide_eq_true h.1
  have e : (ofCh top tail).top = top := by
    unfold Ch.top ofCh
    simp
    omega
  refine ⟨⟨?_, ?_, fun x hx => List.all_eq_true.1 h.2 x hx, by rw [e]; exact h1⟩, e⟩
  · show 0 < tail.length; omega
  · show tail.length ≤ 1000; omega
/-- The configurations that are known of the slots from a to b: as the document lists them; as the program does. -/
def tellAt (c : Ch) (a b slot : Nat) : Option Nat := if a ≤ slot ∧ slot ≤ b ∧ (c.at_ slot).2 = true then some (c.at_ slot).1 else none
def refL (c : Ch) (a b : Nat) : List Nat := (List.range (c.dirs.length + 3)).filterMap fun i => tellAt c a b (c.low + i + 1)
def fromN (c : Ch) (a : Nat) : Nat := if 0 < c.low then max a (c.low + 3) else a
def toN (c : Ch) (b : Nat) : Nat := min b (c.top + 3)
def atO (c : Ch) (slot : Nat) : Option Nat := if (c.at_ slot).2 = true then some (c.at_ slot).1 else none
def knownL (c : Ch) (a b : Nat) : List Nat := (List.range' (fromN c a) (toN c b + 1 - fromN c a)).filterMap (atO c)
theorem mem_refL {c : Ch} (hc : c.Ok) (a b s : Nat) : s ∈ refL c a b ↔ ∃ slot, a ≤ slot ∧ slot ≤ b ∧ c.at_ slot = (s, true) := by
  unfold refL
  rw [List.mem_filterMap]
  constructor
  · rintro ⟨i, _, h⟩
    unfold tellAt at h
    split at h
    · rename_i h1
      refine ⟨_, h1.1, h1.2.1, ?_⟩
      rw [← Option.some.inj h, ← h1.2.2]
    · cases h
  · rintro ⟨slot, h1, h2, h3⟩
    have h4 : (c.at_ slot).2 = true := by rw [h3]
    obtain ⟨h5, h6, h7⟩ := at_iff.1 h4
    have hn := hc.ne
    refine ⟨slot - c.low - 1, List.mem_range.2 ?_, ?_⟩
    · unfold Ch.top at h7; omega
    · rw [show c.low + (slot - c.low - 1) + 1 = slot by omega]
      unfold tellAt
      rw [if_pos ⟨h1, h2, h4⟩, h3]
theorem mem_knownL {c : Ch} (a b s : Nat) : s ∈ knownL c a b ↔ ∃ slot, a ≤ slot ∧ slot ≤ b ∧ c.at_ slot = (s, true) := by
  unfold knownL
  rw [List.mem_filterMap]
  constructor
  · rintro ⟨slot, hm, h⟩
    rw [List.mem_range'_1] at hm
    unfold atO at h
    split at h
    · rename_i h1
      refine ⟨slot, ?_, ?_, by rw [← Option.some.inj h, ← h1]⟩
      · unfold fromN at hm; split at hm <;> omega
      · unfold toN at hm; omega
    · cases h
  · rintro ⟨slot, h1, h2, h3⟩
    have h4 : (c.at_ slot).2 = true := by rw [h3]
    obtain ⟨h5, h6, h7⟩ := at_iff.1 h4
    refine ⟨slot, ?_, ?_⟩
    · rw [List.mem_range'_1]
      have e1 : fromN c a ≤ slot := by unfold fromN; split <;> omega
      have e2 : slot ≤ toN c b := by unfold toN; omega
      omega
    · unfold atO
      rw [if_pos h4, h3]
/-- All nodes of these. -/
def Ch.span (c : Ch) (a b : Nat) : Nat := (knownL c a b).foldl withN 0
theorem fold_with_test : ∀ (l : List Nat) (x i : Nat), i < 7 → (l.foldl withN x).testBit i = (x.testBit i || l.any fun y => y.testBit i)
  | [], x, i, _ => by simp
  | y :: l, x, i, h => by
    rw [List.foldl_cons, fold_with_test l _ i h, test_with x y i h, List.any_cons, Bool.or_assoc]
theorem fold_with_lt : ∀ (l : List Nat) (x : Nat), x < 128 → l.foldl withN x < 128
  | [], _, h => h
  | y :: l, _, _ => fold_with_lt l _ (with_lt _ y)
theorem span_ref {c : Ch} (hc : c.Ok) (a b : Nat) : setN ((refL c a b).flatMap listN) = c.span a b := by
  refine eq_of_bits _ _ (set_lt _) (fold_with_lt _ _ (by omega)) fun i hi => ?_
  unfold Ch.span
  rw [set_test _ i hi, fold_with_test _ _ i hi, Nat.zero_testBit, Bool.false_or]
  unfold hasL
  rw [Bool.eq_iff_iff, decide_eq_true_iff, List.mem_flatMap, List.any_eq_true]
  constructor
  · rintro ⟨s, hs, h⟩
    exact ⟨s, (mem_knownL a b s).2 ((mem_refL hc a b s).1 hs), ((mem_list s i).1 h).2⟩
  · rintro ⟨s, hs, h⟩
    exact ⟨s, (mem_refL hc a b s).2 ((mem_knownL a b s).1 hs), (mem_list s i).2 ⟨hi, h⟩⟩
theorem known_lt {c : Ch} (hc : c.Ok) (a b : Nat) : ∀ s ∈ knownL c a b, s < 128 := fun s hs => by
  obtain ⟨slot, _, _, h⟩ := (mem_knownL a b s).1 hs
  have := at_lt hc slot
  rw [h] at this
  exact this
end Go.Proofs.Ytbamfnlgapchkaa.Chn
