/- Plain laws: commands put one behind the other are read one by one; what was read was put; with the last byte gone the last one is cut short. No program in sight. Conditions: none but those each one names. -/
import Derived.Test.YteiaiilfekojfaaGreatQNetOrderCmdPut
import Derived.Test.YteiaiilfekojfaaGreatQNetOrderWireLaw
namespace Go.Proofs.YteiaiilfekojfaaGreat.Cmd
open Go.RowKit Wire

theorem below_put_back (n m : Nat) (h : n < m) (hm : n < 18446744073709551616) (rest : List UInt8) : Rd.below ⟨0, numB n ++ rest⟩ m = (n, ⟨0, rest⟩) := by
  unfold Rd.below
  rw [num_put_back n hm]
  simp only
  rw [if_neg (by simp), if_neg (by omega)]
theorem str_put_most (s : List UInt8) (m : Nat) (h : s.length ≤ m) (hm : m ≤ 1000) (rest : List UInt8) : Rd.str ⟨0, strB s ++ rest⟩ (m : Int) = (s, ⟨0, rest⟩) := by
  unfold Rd.str strB
  have e : (max (m : Int) 0).toNat + 1 = m + 1 := by omega
  rw [e, List.append_assoc, below_put_back _ _ (by omega) (by omega)]
  simp only
  rw [take_ok _ _ (by simp)]
  simp
theorem byte_nat (x : Nat) (h : x < 256) (l : List UInt8) : Rd.byte ⟨0, UInt8.ofNat x :: l⟩ = (x, ⟨0, l⟩) := by
  rw [byte_cons, UInt8.toNat_ofNat', Nat.mod_eq_of_lt (by omega)]
theorem may_parts {c : Cm} (h : mayB c = true) : c.client < 4 ∧ c.kind ≤ 5 ∧ c.key.length ≤ 16 ∧ c.old.length ≤ 64 ∧ c.new.length ≤ 64 := by
  unfold mayB at h
  have h := of_decide_eq_true h
  omega
/-- WHAT WAS PUT IS READ. -/
theorem takeC_put (c : Cm) (h : mayB c = true) (hf : c.Fits) (rest : List UInt8) : takeC ⟨0, oneB c ++ rest⟩ = (c, ⟨0, rest⟩) := by
  obtain ⟨a, b, d, e, f⟩ := may_parts h
  have q1 := hf.h2
  have q2 := hf.h7
  obtain ⟨cl, sq, k, ky, od, nw, st⟩ := c
  simp only at a b d e f q1 q2
  unfold oneB
  simp only [List.cons_append, List.append_assoc, List.nil_append]
  rw [takeC_eq (byte_nat cl (by omega) _) (below_put_back sq 4294967296 (by omega) (by omega) _) (byte_nat k (by omega) _) (str_put_most ky 16 d (by omega) _) (str_put_most od 64 e (by omega) _) (str_put_most nw 64 f (by omega) _) (byte_nat st (by omega) rest)]
  rw [h]
  rfl
theorem byte_err {r : Rd} (h : r.byte.2.err = 0) : r.err = 0 := by
  by_cases e : r.err = 0
  · exact e
  · rw [byte_failed r e] at h; exact absurd h e
theorem below_failed (r : Rd) (n : Nat) (h : r.err ≠ 0) : r.below n = (0, r) := by
  unfold Rd.below; rw [num_failed r h]; simp only; rw [if_pos h]
theorem below_err {r : Rd} {n : Nat} (h : (r.below n).2.err = 0) : r.err = 0 := by
  by_cases e : r.err = 0
  · exact e
  · rw [below_failed r n e] at h; exact absurd h e
theorem str_failed (r : Rd) (m : Int) (h : r.err ≠ 0) : r.str m = ([], r) := by
  unfold Rd.str; rw [below_failed r _ h]; simp only; rw [take_failed r _ h]
theorem str_err {r : Rd} {m : Int} (h : (r.str m).2.err = 0) : r.err = 0 := by
  by_cases e : r.err = 0
  · exact e
  · rw [str_failed r m e] at h; exact absurd h e
theorem bad_zero {r : Rd} (h : r.bad.err = 0) : False := bad_err r h
theorem byte_back {s : List UInt8} {x : Nat} {r : Rd} (h : Rd.byte ⟨0, s⟩ = (x, r)) (h0 : r.err = 0) : s = UInt8.ofNat x :: r.rest := by
  match s with
  | [] => rw [byte_empty] at h; cases h; cases h0
  | b :: l => rw [byte_cons] at h; cases h; simp
theorem below_back {s : List UInt8} {n x : Nat} {r : Rd} (h : Rd.below ⟨0, s⟩ n = (x, r)) (h0 : r.err = 0) : s = numB x ++ r.rest ∧ x < n := by
  unfold Rd.below at h
  obtain ⟨v, r1, hv⟩ : ∃ v r1, Rd.num ⟨0, s⟩ = (v, r1) := ⟨_, _, rfl⟩
  rw [hv] at h
  simp only at h
  by_cases e1 : r1.err ≠ 0
  · rw [if_pos e1] at h; cases h; exact absurd h0 e1
  rw [if_neg e1] at h
  by_cases e2 : n ≤ v
  · rw [if_pos e2] at h
    cases h
    unfold Rd.fail at h0
    split at h0
    · cases h0
    · exact absurd h0 (by assumption)
  · rw [if_neg e2] at h
    cases h
    obtain ⟨er, rest⟩ := r
    have h0 : er = 0 := h0
    subst h0
    exact ⟨num_back s x rest hv, by omega⟩
theorem str_back {s t : List UInt8} {m : Int} {r : Rd} (h : Rd.str ⟨0, s⟩ m = (t, r)) (h0 : r.err = 0) : s = strB t ++ r.rest := by
  unfold Rd.str at h
  obtain ⟨n, r1, hv⟩ : ∃ n r1, Rd.below ⟨0, s⟩ ((max m 0).toNat + 1) = (n, r1) := ⟨_, _, rfl⟩
  rw [hv] at h
  simp only at h
  have hr : r1.err = 0 := by
    by_cases e : r1.err = 0
    · exact e
    · rw [take_failed r1 n e] at h; cases h; exact absurd h0 e
  obtain ⟨hs, _⟩ := below_back hv hr
  obtain ⟨er, rest⟩ := r1
  have hr : er = 0 := hr
  subst hr
  by_cases e : n ≤ rest.length
  · rw [take_ok rest n e] at h
    cases h
    have hl : (rest.take n).length = n := by rw [List.length_take]; omega
    unfold strB
    rw [hl, hs]
    simp
  · rw [take_short rest n (by omega)] at h
    cases h
    cases h0
theorem rd_zero {r : Rd} (h : r.err = 0) : r = ⟨0, r.rest⟩ := by obtain ⟨e, l⟩ := r; have h : e = 0 := h; subst h; rfl
theorem snd_eq {α β : Type} {p : α × β} {a : α} {b : β} (h : p = (a, b)) : p.2 = b := by rw [h]
/-- WHAT WAS READ WAS PUT. -/
theorem takeC_back {r : Rd} (h : (takeC r).2.err = 0) : r.err = 0 ∧ r.rest = oneB (takeC r).1 ++ (takeC r).2.rest ∧ mayB (takeC r).1 = true := by
  obtain ⟨r1, r2, r3, r4, r5, r6, r7, a, b, k, z, s, t, u, e1, e2, e3, e4, e5, e6, e7, _⟩ := takeC_parts r
  rw [takeC_eq e1 e2 e3 e4 e5 e6 e7] at h ⊢
  simp only at h ⊢
  by_cases hm : mayB ⟨a, b, k, s, t, u, z⟩ = true
  · rw [if_pos hm] at h ⊢
    rw [if_pos h]
    have h7 := h
    have h6 : r6.err = 0 := byte_err (by rw [snd_eq e7]; exact h7)
    have h5 : r5.err = 0 := str_err (by rw [snd_eq e6]; exact h6)
    have h4 : r4.err = 0 := str_err (by rw [snd_eq e5]; exact h5)
    have h3 : r3.err = 0 := str_err (by rw [snd_eq e4]; exact h4)
    have h2 : r2.err = 0 := byte_err (by rw [snd_eq e3]; exact h3)
    have h1 : r1.err = 0 := below_err (by rw [snd_eq e2]; exact h2)
    have h0 : r.err = 0 := byte_err (by rw [snd_eq e1]; exact h1)
    refine ⟨h0, ?_, hm⟩
    rw [rd_zero h0] at e1
    rw [rd_zero h1] at e2
    rw [rd_zero h2] at e3
    rw [rd_zero h3] at e4
    rw [rd_zero h4] at e5
    rw [rd_zero h5] at e6
    rw [rd_zero h6] at e7
    have b1 := byte_back e1 h1
    have b2 := (below_back e2 h2).1
    have b3 := byte_back e3 h3
    have b4 := str_back e4 h4
    have b5 := str_back e5 h5
    have b6 := str_back e6 h6
    have b7 := byte_back e7 h7
    unfold oneB
    simp only [List.cons_append, List.append_assoc, List.nil_append]
    rw [← b7, ← b6, ← b5, ← b4, ← b3, ← b2, ← b1]
  · rw [if_neg hm] at h
    exact (bad_zero h).elim
/-- Errors are none, 3 and 4. -/
def Rd.Ok (r : Rd) : Prop := r.err = 0 ∨ r.err = 3 ∨ r.err = 4
/-! ### Many commands -/
theorem end_zero {r : Rd} (h : r.end_.err = 0) : r.err = 0 ∧ r.rest = [] := by
  unfold Rd.end_ at h
  by_cases e : 0 < r.rest.length
  · rw [if_pos e] at h
    unfold Rd.fail at h
    split at h
    · cases h
    · exact absurd h (by assumption)
  · rw [if_neg e] at h; exact ⟨h, List.eq_nil_of_length_eq_zero (by omega)⟩
end Go.Proofs.YteiaiilfekojfaaGreat.Cmd
