/- The document's reader of bytes, plain laws: Below, Str, Bad; they are the program's. Conditions: none. -/
import Derived.Test.YteiaiilfekojfaaGreatQTakesAWireDocNum
namespace Go.Proofs.YteiaiilfekojfaaGreat.Wire
open Go.RowKit

def Dr.below (r : Dr) (n : Nat) : Nat × Dr := if r.num.2.e = 0 ∧ n ≤ r.num.1 then (0, ⟨[], 4⟩) else r.num
def Dr.str (r : Dr) (most : Int) : List UInt8 × Dr :=
  if r.num.2.e ≠ 0 then ([], r.num.2)
  else if (max most 0).toNat < r.num.1 then ([], ⟨[], 4⟩)
  else if r.num.2.s.length < r.num.1 then ([], ⟨[], 3⟩)
  else (r.num.2.s.take r.num.1, ⟨r.num.2.s.drop r.num.1, 0⟩)
def Dr.bad (r : Dr) : Dr := if r.e = 0 then ⟨[], 4⟩ else r

theorem num_err0 (r : Rd) (h : r.num.2.err ≠ 0) : r.num.1 = 0 := by
  obtain ⟨e, l⟩ := r
  by_cases he : e = 0
  · subst he
    match l with
    | [] => rfl
    | b :: l =>
      by_cases h8 : b.toNat < 248
      · rw [num_small b l h8] at h; exact absurd rfl h
      · by_cases hk : b.toNat - 247 ≤ l.length
        · rw [num_big b l h8 hk] at h ⊢
          split
          · rfl
          · rename_i hc; rw [if_neg hc] at h; exact absurd rfl h
        · rw [num_short b l h8 (by omega)]
  · rw [num_failed _ he]
theorem doc_below (r : Rd) (n : Nat) : (r.doc).below n = ((r.below n).1, (r.below n).2.doc) := by
  have h0 := num_err0 r
  unfold Dr.below Rd.below
  rw [doc_num]
  generalize r.num = p at *
  obtain ⟨v, e, l⟩ := p
  simp only at h0 ⊢
  unfold Rd.doc
  by_cases he : e = 0
  · subst he
    by_cases hn : n ≤ v
    · simp [hn, Rd.fail]
    · simp [hn]
  · simp [he, h0 he]
theorem doc_str (r : Rd) (m : Int) : (r.doc).str m = ((r.str m).1, (r.str m).2.doc) := by
  have h0 := num_err0 r
  unfold Dr.str Rd.str Rd.below
  rw [doc_num]
  generalize r.num = p at *
  generalize (max m 0).toNat = M
  obtain ⟨v, e, l⟩ := p
  simp only at h0 ⊢
  by_cases he : e = 0
  · subst he
    have e0 : Rd.doc ⟨0, l⟩ = ⟨l, 0⟩ := rfl
    rw [e0]
    simp only [ne_eq, not_true_eq_false, if_false]
    by_cases hn : M + 1 ≤ v
    · rw [if_pos (show M < v from hn), if_pos hn]
      rfl
    · rw [if_neg (show ¬ M < v from hn), if_neg hn]
      by_cases h2 : l.length < v
      · rw [if_pos h2, show Rd.take ⟨0, l⟩ v = ([], false, ⟨3, l⟩) from take_short l v h2]
        rfl
      · rw [if_neg h2, show Rd.take ⟨0, l⟩ v = (l.take v, true, ⟨0, l.drop v⟩) from take_ok l v (by omega)]
        rfl
  · have e1 : Rd.doc ⟨e, l⟩ = ⟨[], e⟩ := by unfold Rd.doc; rw [if_neg he]
    rw [e1]
    simp only [ne_eq, he, not_false_eq_true, if_true]
    rw [take_failed ⟨e, l⟩ 0 he]
    simp only
    rw [e1]
theorem doc_bad (r : Rd) : (r.doc).bad = r.bad.doc := by
  obtain ⟨e, l⟩ := r
  unfold Rd.doc Dr.bad Rd.bad Rd.fail
  by_cases he : e = 0
  · subst he; simp
  · simp [he]
theorem doc_left (r : Rd) : (r.doc).s.length = r.left := by
  obtain ⟨e, l⟩ := r
  unfold Rd.doc Rd.left
  by_cases he : e = 0
  · subst he; simp
  · simp [he]
theorem doc_err (r : Rd) : (r.doc).e = r.err := by
  obtain ⟨e, l⟩ := r
  unfold Rd.doc
  by_cases he : e = 0
  · subst he; simp
  · simp [he]
end Go.Proofs.YteiaiilfekojfaaGreat.Wire
