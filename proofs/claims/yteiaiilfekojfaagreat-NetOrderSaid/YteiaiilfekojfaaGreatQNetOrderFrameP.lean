/- Plain laws on frames: what is put is taken, what is taken was put, and a byte that turned is found. No program in sight. Conditions: insides of at most 65536 bytes. -/
import Derived.Test.YteiaiilfekojfaaGreatQNetOrderCrc
import Derived.Test.YteiaiilfekojfaaGreatQNetOrderWireLaw
namespace Go.Proofs.YteiaiilfekojfaaGreat.Frame
open Wire

/-- The k bytes of a number, the least first. -/
def leB : Nat → Nat → List UInt8
  | 0, _ => []
  | k + 1, x => UInt8.ofNat x :: leB k (x / 256)
def leV : List UInt8 → Nat
  | [] => 0
  | b :: l => b.toNat + 256 * leV l
theorem leB_length (k x : Nat) : (leB k x).length = k := by
  induction k generalizing x with
  | zero => rfl
  | succ k ih => rw [leB, List.length_cons, ih]
theorem leV_lt (l : List UInt8) : leV l < 256 ^ l.length := by
  induction l with
  | nil => decide
  | cons b l ih =>
    have hb := b.toNat_lt
    rw [leV, List.length_cons, Nat.pow_succ]
    have h2 : 256 * leV l + 256 ≤ 256 ^ l.length * 256 := by omega
    omega
theorem leV_snoc (l : List UInt8) (b : UInt8) : leV (l ++ [b]) = leV l + b.toNat * 256 ^ l.length := by
  induction l with
  | nil => simp [leV]
  | cons c l ih =>
    rw [List.cons_append, leV, leV, ih, List.length_cons, Nat.pow_succ, Nat.mul_add, ← Nat.add_assoc]
    congr 1
    rw [Nat.mul_comm 256, Nat.mul_assoc]
theorem leV_take (l : List UInt8) (k : Nat) (b : UInt8) (h : l[k]? = some b) : leV (l.take (k + 1)) = leV (l.take k) + b.toNat * 256 ^ k := by
  have hk : k < l.length := (List.getElem?_eq_some_iff.1 h).1
  rw [List.take_add_one, h]
  show leV (l.take k ++ [b]) = _
  rw [leV_snoc, List.length_take, Nat.min_eq_left (by omega)]
theorem leV_leB (k x : Nat) (h : x < 256 ^ k) : leV (leB k x) = x := by
  induction k generalizing x with
  | zero => simp at h; subst h; rfl
  | succ k ih =>
    rw [Nat.pow_succ] at h
    rw [leB, leV, ih _ (Nat.div_lt_of_lt_mul (by omega)), UInt8.toNat_ofNat']
    omega
theorem leB_leV (l : List UInt8) : leB l.length (leV l) = l := by
  induction l with
  | nil => rfl
  | cons b l ih =>
    have hb := b.toNat_lt
    rw [List.length_cons, leB, leV]
    have e1 : (b.toNat + 256 * leV l) / 256 = leV l := by omega
    have e2 : UInt8.ofNat (b.toNat + 256 * leV l) = b := by
      apply UInt8.toNat_inj.1
      rw [UInt8.toNat_ofNat']
      omega
    rw [e1, e2, ih]

/-- The checksum of a text. -/
def crcSum (l : List UInt8) : Nat := cpl (crcMore (cpl 0) l)
theorem crcSum_lt (l : List UInt8) : crcSum l < 18446744073709551616 := cpl_lt _
def frameB (l : List UInt8) : List UInt8 := numB l.length ++ (leB 8 (crcSum l) ++ l)
/-- The first frame of a text: its inside, how many bytes it has, and what is wrong. -/
def takeF (s : List UInt8) : List UInt8 × Nat × Nat :=
  let p := Rd.num ⟨0, s⟩
  if p.2.err ≠ 0 then ([], 0, p.2.err)
  else if p.1 = 0 ∨ 65536 < p.1 then ([], 0, 4)
  else if p.2.rest.length < 8 + p.1 then ([], 0, 3)
  else if leV (p.2.rest.take 8) ≠ crcSum ((p.2.rest.drop 8).take p.1) then ([], 0, 5)
  else ((p.2.rest.drop 8).take p.1, s.length - p.2.rest.length + (8 + p.1), 0)

theorem frame_len (l : List UInt8) (_h : l.length ≤ 65536) : (frameB l).length = (numB l.length).length + (8 + l.length) := by
  unfold frameB
  rw [List.length_append, List.length_append, leB_length]
theorem take_put (l rest : List UInt8) (h0 : 0 < l.length) (h : l.length ≤ 65536) : takeF (frameB l ++ rest) = (l, (frameB l).length, 0) := by
  have e : frameB l ++ rest = numB l.length ++ (leB 8 (crcSum l) ++ (l ++ rest)) := by unfold frameB; simp
  have hn := num_put_back l.length (by omega) (leB 8 (crcSum l) ++ (l ++ rest))
  have h8 := leB_length 8 (crcSum l)
  have hlt := crcSum_lt l
  unfold takeF
  rw [e, hn]
  have t1 : (leB 8 (crcSum l) ++ (l ++ rest)).take 8 = leB 8 (crcSum l) := List.take_left' h8
  have t2 : (leB 8 (crcSum l) ++ (l ++ rest)).drop 8 = l ++ rest := List.drop_left' h8
  have t3 : (l ++ rest).take l.length = l := List.take_left' rfl
  have t4 := leV_leB 8 (crcSum l) (by simpa using hlt)
  have t5 := frame_len l h
  simp only [t1, t2, t3, t4, List.length_append, h8]
  rw [if_neg (by simp), if_neg (by omega), if_neg (by omega), if_neg (by simp)]
  congr 2
  rw [t5]
  omega
end Go.Proofs.YteiaiilfekojfaaGreat.Frame
