/- The document's reader of bytes, walked: Num; it is the program's. Conditions: the arguments are of their types. -/
import Derived.Test.YteiaiilfekojfaaWireDoc
import Derived.Deep.LoopGhost
import Derived.Deep.RegionHeld3
import Derived.IntWalk
import Derived.Deep.DeepCutAuto
namespace Go.Proofs.Yteiaiilfekojfaa.Wire
open Go.RowKit

/-- How many bytes follow a first byte. -/
def kOf (b : UInt8) : Nat := if 248 ≤ b.toNat then b.toNat - 247 else 0
def vOf (b : UInt8) (l : List UInt8) : Nat := if 248 ≤ b.toNat then valB (l.take (kOf b)) else b.toNat
def Dr.num (r : Dr) : Nat × Dr :=
  if r.e ≠ 0 then (0, r) else match r.s with
  | [] => (0, ⟨[], 3⟩)
  | b :: l => if l.length < kOf b then (0, ⟨[], 3⟩) else if numB (vOf b l) = (b :: l).take (1 + kOf b) then (vOf b l, ⟨(b :: l).drop (1 + kOf b), 0⟩) else (0, ⟨[], 4⟩)
theorem kOf_le (b : UInt8) : kOf b ≤ 8 := by
  unfold kOf
  have := b.toNat_lt
  split <;> omega
theorem vOf_lt (b : UInt8) (l : List UInt8) : vOf b l < 18446744073709551616 := by
  unfold vOf
  have hb := b.toNat_lt
  split
  · have h1 := valB_take_lt l (kOf b)
    have h2 : 256 ^ kOf b ≤ 256 ^ 8 := Nat.pow_le_pow_right (by omega) (kOf_le b)
    have h3 : (256 : Nat) ^ 8 = 18446744073709551616 := by decide
    omega
  · omega
theorem of_toNat (b : UInt8) : UInt8.ofNat b.toNat = b := by simp
theorem take1_cons (k : Nat) (b : UInt8) (l : List UInt8) : (b :: l).take (1 + k) = b :: l.take k := by rw [Nat.add_comm, List.take_succ_cons]
theorem drop1_cons (k : Nat) (b : UInt8) (l : List UInt8) : (b :: l).drop (1 + k) = l.drop k := by rw [Nat.add_comm, List.drop_succ_cons]
theorem doc_num (r : Rd) : (r.doc).num = (r.num.1, r.num.2.doc) := by
  obtain ⟨e, l⟩ := r
  unfold Rd.doc
  by_cases h : e = 0
  · subst h
    match l with
    | [] => rfl
    | b :: l =>
      have hb := b.toNat_lt
      by_cases h8 : b.toNat < 248
      · rw [num_small b l h8]
        have hk : kOf b = 0 := by unfold kOf; rw [if_neg (by omega)]
        have hv : vOf b l = b.toNat := by unfold vOf; rw [if_neg (by omega)]
        unfold Dr.num
        simp only [if_true, ne_eq, not_true_eq_false, if_false, hk, hv]
        have hn : numB b.toNat = [b] := by unfold numB; rw [if_pos h8, of_toNat]
        rw [if_neg (by omega), hn]
        simp
      · have hk : kOf b = b.toNat - 247 := by unfold kOf; rw [if_pos (by omega)]
        have hv : vOf b l = valB (l.take (b.toNat - 247)) := by unfold vOf; rw [if_pos (by omega), hk]
        have hvl := vOf_lt b l
        rw [hv] at hvl
        unfold Dr.num
        simp only [if_true, ne_eq, not_true_eq_false, if_false, hk, hv]
        by_cases hs : b.toNat - 247 ≤ l.length
        · rw [num_big b l h8 hs, if_neg (by omega)]
          have hlen : (l.take (b.toNat - 247)).length = b.toNat - 247 := by rw [List.length_take]; omega
          have ht : (b :: l).take (1 + (b.toNat - 247)) = b :: l.take (b.toNat - 247) := take1_cons _ _ _
          have hd : (b :: l).drop (1 + (b.toNat - 247)) = l.drop (b.toNat - 247) := drop1_cons _ _ _
          rw [ht, hd]
          generalize hn : valB (l.take (b.toNat - 247)) = n at *
          by_cases hc : n < 248 ∨ widthN n ≠ b.toNat - 247
          · have hne : ¬ numB n = b :: l.take (b.toNat - 247) := by
              intro he
              unfold numB at he
              by_cases h2 : n < 248
              · rw [if_pos h2] at he
                have := congrArg List.length he
                simp only [List.length_cons, List.length_nil, hlen] at this
                omega
              · rw [if_neg h2] at he
                have h3 := (List.cons.inj he).1
                have h4 := congrArg UInt8.toNat h3
                have hw := width_le n hvl
                have : (UInt8.ofNat (247 + widthN n)).toNat = 247 + widthN n := by simp; omega
                rw [this] at h4
                omega
            rw [if_neg hne, if_pos hc]
            simp
          · have hyes : numB n = b :: l.take (b.toNat - 247) := by
              unfold numB
              rw [if_neg (by omega)]
              have hw : widthN n = b.toNat - 247 := by omega
              have hbe := be_val (l.take (b.toNat - 247))
              rw [hlen, hn] at hbe
              rw [hw, hbe]
              have e : 247 + (b.toNat - 247) = b.toNat := by omega
              rw [e, of_toNat]
            rw [if_pos hyes, if_neg hc]
            simp
        · rw [num_short b l h8 (by omega), if_pos (by omega)]
          simp
  · rw [num_failed _ h]
    simp only [if_neg h]
    unfold Dr.num
    rw [if_pos h]

/-! ### The walk -/
def DocAt (b : UInt8) (l : List UInt8) (L : List (Nat × TypeId × Array Value)) (w : World) (gk : Nat) (s5 s6 : Value) (wr : World) : Prop :=
  ∃ j v : Nat, j + gk = kOf b ∧ s6 = .int .i64 ((j : Int) + 1) ∧ s5 = .int .u64 (v : Int) ∧ v < 18446744073709551616 ∧ Hid (if 248 ≤ b.toNat then v = valB (l.take j) else v = b.toNat) ∧ Kg L w wr
end Go.Proofs.Yteiaiilfekojfaa.Wire
