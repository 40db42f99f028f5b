/- Plain laws on numbers and texts as bytes, and on a reader: no program in sight. Conditions: numbers below 2^64. -/
import Derived.Lib.BitFns
import Derived.Lib.ItoaNum
namespace Go.Proofs.YteiaiilfekojfaaGreat.Wire

/-- The k bytes of a number, the greatest first. -/
def beB : Nat → Nat → List UInt8
  | 0, _ => []
  | k + 1, n => UInt8.ofNat (n / 256 ^ k) :: beB k n
def valB : List UInt8 → Nat
  | [] => 0
  | b :: l => b.toNat * 256 ^ l.length + valB l
def widthN (n : Nat) : Nat := (Lib.bitLen n + 7) / 8
def numB (n : Nat) : List UInt8 := if n < 248 then [UInt8.ofNat n] else UInt8.ofNat (247 + widthN n) :: beB (widthN n) n
def strB (s : List UInt8) : List UInt8 := numB s.length ++ s

theorem beB_length (k n : Nat) : (beB k n).length = k := by
  induction k with
  | zero => rfl
  | succ k ih => simp [beB, ih]
theorem valB_lt (l : List UInt8) : valB l < 256 ^ l.length := by
  induction l with
  | nil => simp [valB]
  | cons b l ih =>
    have hb := b.toNat_lt
    rw [valB, List.length_cons, Nat.pow_succ]
    have : b.toNat * 256 ^ l.length + 256 ^ l.length ≤ 256 ^ l.length * 256 := by
      rw [← Nat.succ_mul, Nat.mul_comm]
      exact Nat.mul_le_mul_left _ (by omega)
    omega
theorem beB_mod (k n : Nat) : beB k (n % 256 ^ k) = beB k n := by
  have h : ∀ j, j ≤ k → beB j (n % 256 ^ k) = beB j n := by
    intro j
    induction j with
    | zero => intro _; rfl
    | succ j ih =>
      intro hj
      rw [beB, beB, ih (by omega)]
      congr 1
      have e : 256 ^ k = 256 ^ j * 256 ^ (k - j) := by rw [← Nat.pow_add]; congr 1; omega
      have e2 : 256 ^ (k - j) = 256 * 256 ^ (k - j - 1) := by rw [← Nat.pow_succ']; congr 1; omega
      rw [e, Nat.mod_mul_right_div_self]
      apply UInt8.toNat_inj.1
      rw [UInt8.toNat_ofNat', UInt8.toNat_ofNat', e2, Nat.mod_mul_right_mod]
  exact h k (Nat.le_refl k)
theorem val_be (k n : Nat) (h : n < 256 ^ k) : valB (beB k n) = n := by
  induction k generalizing n with
  | zero => simp [beB, valB]; simp at h; omega
  | succ k ih =>
    rw [beB, valB, beB_length, ← beB_mod k n, ih _ (Nat.mod_lt _ (Nat.pow_pos (by omega))), UInt8.toNat_ofNat']
    have hd : n / 256 ^ k < 256 := by
      rw [Nat.pow_succ] at h
      exact (Nat.div_lt_iff_lt_mul (Nat.pow_pos (by omega))).2 (by rw [Nat.mul_comm]; exact h)
    rw [Nat.mod_eq_of_lt (by simpa using hd), Nat.mul_comm]
    exact Nat.div_add_mod n (256 ^ k)
theorem be_val (l : List UInt8) : beB l.length (valB l) = l := by
  induction l with
  | nil => rfl
  | cons b l ih =>
    rw [List.length_cons, beB, valB]
    have hv := valB_lt l
    have hp : 0 < 256 ^ l.length := Nat.pow_pos (by omega)
    have hd : (b.toNat * 256 ^ l.length + valB l) / 256 ^ l.length = b.toNat := by
      rw [Nat.add_comm, Nat.add_mul_div_right _ _ hp, Nat.div_eq_of_lt hv, Nat.zero_add]
    rw [hd, ← beB_mod, Nat.add_comm, Nat.add_mul_mod_self_right, Nat.mod_eq_of_lt hv, ih]
    simp

theorem width_bounds (n : Nat) (h0 : n ≠ 0) (h : n < 18446744073709551616) : 1 ≤ widthN n ∧ widthN n ≤ 8 ∧ 256 ^ (widthN n - 1) ≤ n ∧ n < 256 ^ widthN n := by
  obtain ⟨h1, h2, h3⟩ := Lib.bitLenAux_bounds 64 n (by simpa using h) h0
  have hl := Lib.bitLen_le n 64 (by omega) (by simpa using h)
  have e : Lib.bitLenAux 64 n = Lib.bitLen n := rfl
  rw [e] at h1 h2 h3
  unfold widthN
  generalize Lib.bitLen n = b at *
  have hp : ∀ m, (256 : Nat) ^ m = 2 ^ (8 * m) := fun m => by rw [show (256 : Nat) = 2 ^ 8 from rfl, ← Nat.pow_mul]
  refine ⟨by omega, by omega, ?_, ?_⟩
  · rw [hp]; exact Nat.le_trans (Nat.pow_le_pow_right (by omega) (by omega)) h2
  · rw [hp]; exact Nat.lt_of_lt_of_le h3 (Nat.pow_le_pow_right (by omega) (by omega))
theorem width_le (n : Nat) (h : n < 18446744073709551616) : widthN n ≤ 8 := by
  by_cases h0 : n = 0
  · subst h0; decide
  · exact (width_bounds n h0 h).2.1
theorem numB_length (n : Nat) (h : n < 18446744073709551616) : (numB n).length ≤ 9 ∧ 1 ≤ (numB n).length := by
  unfold numB
  split
  · simp
  · rw [List.length_cons, beB_length]; have := width_le n h; omega

/-! ### A reader: its error, and what it has not gone over -/
structure Rd where
  err : Nat
  rest : List UInt8

def Rd.fail (r : Rd) (e : Nat) : Rd := if r.err = 0 then { r with err := e } else r
def Rd.take (r : Rd) (n : Nat) : List UInt8 × Bool × Rd :=
  if r.err ≠ 0 then ([], false, r)
  else if r.rest.length < n then ([], false, r.fail 3)
  else (r.rest.take n, true, { r with rest := r.rest.drop n })
def Rd.byte (r : Rd) : Nat × Rd :=
  match r.take 1 with
  | (s, true, r') => ((s.headD 0).toNat, r')
  | (_, false, r') => (0, r')
def Rd.num (r : Rd) : Nat × Rd :=
  match r.byte with
  | (c, r1) =>
    if c < 248 then (c, r1)
    else match r1.take (c - 247) with
      | (_, false, r2) => (0, r2)
      | (s, true, r2) => if valB s < 248 ∨ widthN (valB s) ≠ c - 247 then (0, r2.fail 4) else (valB s, r2)
def Rd.below (r : Rd) (n : Nat) : Nat × Rd :=
  match r.num with
  | (v, r1) => if r1.err ≠ 0 then (0, r1) else if n ≤ v then (0, r1.fail 4) else (v, r1)
def Rd.str (r : Rd) (most : Int) : List UInt8 × Rd :=
  match r.below ((max most 0).toNat + 1) with
  | (n, r1) => ((r1.take n).1, (r1.take n).2.2)
def Rd.bad (r : Rd) : Rd := r.fail 4
def Rd.left (r : Rd) : Nat := if r.err ≠ 0 then 0 else r.rest.length
def Rd.end_ (r : Rd) : Rd := if 0 < r.rest.length then r.fail 4 else r

theorem take_len {r r' : Rd} {n : Nat} {s : List UInt8} (h : r.take n = (s, true, r')) : s.length = n := by
  unfold Rd.take at h
  split at h
  · cases h
  · split at h
    · cases h
    · cases h; rw [List.length_take]; omega
theorem take_rest {r r' : Rd} {n : Nat} {s : List UInt8} {ok : Bool} (h : r.take n = (s, ok, r')) : r'.rest.length ≤ r.rest.length := by
  unfold Rd.take at h
  split at h
  · cases h; exact Nat.le_refl _
  · split at h
    · cases h; unfold Rd.fail; split <;> exact Nat.le_refl _
    · cases h; simp
theorem fail_rest (r : Rd) (e : Nat) : (r.fail e).rest = r.rest := by unfold Rd.fail; split <;> rfl
theorem byte_lt {r r' : Rd} {c : Nat} (h : r.byte = (c, r')) : c < 256 := by
  unfold Rd.byte at h
  split at h
  · cases h; exact UInt8.toNat_lt _
  · cases h; omega
theorem byte_rest {r r' : Rd} {c : Nat} (h : r.byte = (c, r')) : r'.rest.length ≤ r.rest.length := by
  unfold Rd.byte at h
  split at h
  · rename_i _ _ e; cases h; exact take_rest e
  · rename_i _ _ e; cases h; exact take_rest e
theorem valB_take (s : List UInt8) (k : Nat) (b : UInt8) (h : s[k]? = some b) : valB (s.take (k + 1)) = valB (s.take k) * 256 + b.toNat := by
  have gen : ∀ (l : List UInt8) (b : UInt8), valB (l ++ [b]) = valB l * 256 + b.toNat := by
    intro l b
    induction l with
    | nil => simp [valB]
    | cons c l ih =>
      rw [List.cons_append, valB, valB, ih, List.length_append, List.length_singleton, Nat.pow_succ, Nat.add_mul]
      rw [Nat.mul_assoc, Nat.add_assoc]
  rw [List.take_add_one, h]
  exact gen _ _
theorem valB_take_lt (s : List UInt8) (k : Nat) : valB (s.take k) < 256 ^ k :=
  Nat.lt_of_lt_of_le (valB_lt _) (Nat.pow_le_pow_right (by omega) (List.length_take_le _ _))
theorem num_rest {r r' : Rd} {c : Nat} (h : r.num = (c, r')) : r'.rest.length ≤ r.rest.length := by
  unfold Rd.num at h
  obtain ⟨b, r1, e1⟩ : ∃ b r1, r.byte = (b, r1) := ⟨_, _, rfl⟩
  rw [e1] at h
  have g1 := byte_rest e1
  simp only at h
  split at h
  · cases h; exact g1
  · obtain ⟨s, ok, r2, e2⟩ : ∃ s ok r2, r1.take (b - 247) = (s, ok, r2) := ⟨_, _, _, rfl⟩
    rw [e2] at h
    have g2 := take_rest e2
    cases ok
    · cases h; omega
    · simp only at h
      split at h
      · cases h; rw [fail_rest]; omega
      · cases h; omega
theorem num_lt {r r' : Rd} {c : Nat} (h : r.num = (c, r')) : c < 18446744073709551616 := by
  unfold Rd.num at h
  obtain ⟨b, r1, e1⟩ : ∃ b r1, r.byte = (b, r1) := ⟨_, _, rfl⟩
  rw [e1] at h
  have g1 := byte_lt e1
  simp only at h
  split at h
  · cases h; omega
  · obtain ⟨s, ok, r2, e2⟩ : ∃ s ok r2, r1.take (b - 247) = (s, ok, r2) := ⟨_, _, _, rfl⟩
    rw [e2] at h
    cases ok
    · cases h; omega
    · simp only at h
      split at h
      · cases h; omega
      · cases h
        have hs := take_len e2
        have := valB_lt s
        rw [hs] at this
        exact Nat.lt_of_lt_of_le this (Nat.pow_le_pow_right (n := 256) (by omega) (by omega : b - 247 ≤ 8))
theorem below_rest {r r' : Rd} {c n : Nat} (h : r.below n = (c, r')) : r'.rest.length ≤ r.rest.length := by
  unfold Rd.below at h
  obtain ⟨b, r1, e1⟩ : ∃ b r1, r.num = (b, r1) := ⟨_, _, rfl⟩
  rw [e1] at h
  have g1 := num_rest e1
  simp only at h
  split at h
  · cases h; exact g1
  · split at h
    · cases h; rw [fail_rest]; exact g1
    · cases h; exact g1
end Go.Proofs.YteiaiilfekojfaaGreat.Wire
