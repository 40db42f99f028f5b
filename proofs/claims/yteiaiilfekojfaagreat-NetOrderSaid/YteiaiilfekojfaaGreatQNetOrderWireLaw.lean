/- Plain laws: what was put is read; bytes that are one number are that number's. No program in sight. Conditions: numbers below 2^64. -/
import Derived.Test.YteiaiilfekojfaaGreatQNetOrderWirePure
namespace Go.Proofs.YteiaiilfekojfaaGreat.Wire

theorem take_ok (l : List UInt8) (k : Nat) (h : k ≤ l.length) : Rd.take ⟨0, l⟩ k = (l.take k, true, ⟨0, l.drop k⟩) := by
  unfold Rd.take
  rw [if_neg (by simp), if_neg (by simp only; omega)]
theorem take_short (l : List UInt8) (k : Nat) (h : l.length < k) : Rd.take ⟨0, l⟩ k = ([], false, ⟨3, l⟩) := by
  unfold Rd.take
  rw [if_neg (by simp), if_pos h]
  rfl
theorem byte_cons (b : UInt8) (l : List UInt8) : Rd.byte ⟨0, b :: l⟩ = (b.toNat, ⟨0, l⟩) := by
  unfold Rd.byte
  rw [take_ok _ 1 (by simp)]
  rfl
theorem byte_empty : Rd.byte ⟨0, []⟩ = (0, ⟨3, []⟩) := rfl
theorem fail0 (l : List UInt8) (e : Nat) : Rd.fail ⟨0, l⟩ e = ⟨e, l⟩ := by unfold Rd.fail; rw [if_pos rfl]
theorem take_failed (r : Rd) (k : Nat) (h : r.err ≠ 0) : r.take k = ([], false, r) := by unfold Rd.take; rw [if_pos h]
theorem byte_failed (r : Rd) (h : r.err ≠ 0) : r.byte = (0, r) := by unfold Rd.byte; rw [take_failed r 1 h]
theorem num_failed (r : Rd) (h : r.err ≠ 0) : r.num = (0, r) := by unfold Rd.num; rw [byte_failed r h]; rfl
theorem num_small (b : UInt8) (l : List UInt8) (h : b.toNat < 248) : Rd.num ⟨0, b :: l⟩ = (b.toNat, ⟨0, l⟩) := by
  unfold Rd.num
  rw [byte_cons]
  simp only
  rw [if_pos h]
theorem num_big (b : UInt8) (l : List UInt8) (h : ¬ b.toNat < 248) (hk : b.toNat - 247 ≤ l.length) :
    Rd.num ⟨0, b :: l⟩ = if valB (l.take (b.toNat - 247)) < 248 ∨ widthN (valB (l.take (b.toNat - 247))) ≠ b.toNat - 247 then (0, ⟨4, l.drop (b.toNat - 247)⟩) else (valB (l.take (b.toNat - 247)), ⟨0, l.drop (b.toNat - 247)⟩) := by
  unfold Rd.num
  rw [byte_cons]
  simp only
  rw [if_neg h, take_ok _ _ hk]
  simp only [fail0]
theorem num_short (b : UInt8) (l : List UInt8) (h : ¬ b.toNat < 248) (hk : l.length < b.toNat - 247) : Rd.num ⟨0, b :: l⟩ = (0, ⟨3, l⟩) := by
  unfold Rd.num
  rw [byte_cons]
  simp only
  rw [if_neg h, take_short _ _ hk]

/-- WHAT WAS PUT IS READ: a number, and what stands behind it. -/
theorem num_put_back (n : Nat) (hn : n < 18446744073709551616) (rest : List UInt8) : Rd.num ⟨0, numB n ++ rest⟩ = (n, ⟨0, rest⟩) := by
  unfold numB
  by_cases h : n < 248
  · rw [if_pos h]
    have e : (UInt8.ofNat n).toNat = n := by rw [UInt8.toNat_ofNat', Nat.mod_eq_of_lt (by omega)]
    rw [List.singleton_append, num_small _ _ (by omega), e]
  · rw [if_neg h]
    obtain ⟨h1, h2, h3, h4⟩ := width_bounds n (by omega) hn
    have e : (UInt8.ofNat (247 + widthN n)).toNat = 247 + widthN n := by rw [UInt8.toNat_ofNat', Nat.mod_eq_of_lt (by omega)]
    have e2 : 247 + widthN n - 247 = widthN n := by omega
    rw [List.cons_append, num_big _ _ (by omega) (by rw [e, List.length_append, beB_length]; omega), e, e2]
    have et : (beB (widthN n) n ++ rest).take (widthN n) = beB (widthN n) n := by rw [List.take_append_of_le_length (by rw [beB_length]; exact Nat.le_refl _), List.take_of_length_le (by rw [beB_length]; exact Nat.le_refl _)]
    have ed : (beB (widthN n) n ++ rest).drop (widthN n) = rest := by
      have := List.drop_left (l₁ := beB (widthN n) n) (l₂ := rest)
      rwa [beB_length] at this
    rw [et, ed, val_be _ _ h4, if_neg (by omega)]
theorem num_put_all (n : Nat) (hn : n < 18446744073709551616) : Rd.num ⟨0, numB n⟩ = (n, ⟨0, []⟩) := by
  have := num_put_back n hn []
  rwa [List.append_nil] at this
/-- Bytes that a reader reads as a number are that number's bytes, and what is left. -/
theorem num_back (s : List UInt8) (x : Nat) (rest : List UInt8) (h : Rd.num ⟨0, s⟩ = (x, ⟨0, rest⟩)) : s = numB x ++ rest := by
  match s with
  | [] => cases h
  | b :: l =>
    have hb := b.toNat_lt
    by_cases h8 : b.toNat < 248
    · rw [num_small b l h8] at h
      cases h
      unfold numB
      rw [if_pos h8]
      simp
    · by_cases hk : b.toNat - 247 ≤ l.length
      · rw [num_big b l h8 hk] at h
        by_cases hc : valB (l.take (b.toNat - 247)) < 248 ∨ widthN (valB (l.take (b.toNat - 247))) ≠ b.toNat - 247
        · rw [if_pos hc] at h; simp at h
        · rw [if_neg hc] at h
          simp only [Prod.mk.injEq, Rd.mk.injEq, true_and] at h
          obtain ⟨rfl, rfl⟩ := h
          have hlen : (l.take (b.toNat - 247)).length = b.toNat - 247 := by rw [List.length_take]; omega
          unfold numB
          rw [if_neg (by omega)]
          have hw : widthN (valB (l.take (b.toNat - 247))) = b.toNat - 247 := by omega
          have hbe := be_val (l.take (b.toNat - 247))
          rw [hlen] at hbe
          rw [hw, hbe]
          have e : 247 + (b.toNat - 247) = b.toNat := by omega
          rw [e]
          simp
      · rw [num_short b l h8 (by omega)] at h; cases h
theorem below_put (n m : Nat) (hn : n < 18446744073709551616) : Rd.below ⟨0, numB n⟩ m = if m ≤ n then (0, ⟨4, []⟩) else (n, ⟨0, []⟩) := by
  unfold Rd.below
  rw [num_put_all n hn]
  rfl
end Go.Proofs.YteiaiilfekojfaaGreat.Wire
