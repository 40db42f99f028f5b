/- Tables read from bytes, in plain Lean: the program's table is the table of the document's list. Conditions: none. -/
import Derived.Test.YtgbnaifjdfoahaaSessPut
import Derived.Test.YtgbnaifjdfoahaaWireDocStr
namespace Go.Proofs.Ytgbnaifjdfoahaa.Sess
open Go.RowKit Wire

theorem below_lt {r r' : Rd} {c n : Nat} (hn : 0 < n) (h : r.below n = (c, r')) : c < n := by
  unfold Rd.below at h
  split at h
  split at h
  · cases h; exact hn
  · split at h
    · cases h; exact hn
    · cases h; omega
theorem str_rest {r r' : Rd} {s : List UInt8} {m : Int} (h : r.str m = (s, r')) : r'.rest.length ≤ r.rest.length := by
  unfold Rd.str at h
  split at h
  rename_i n r1 e1
  have a := below_rest e1
  have b := take_rest (r := r1) (n := n) (s := (r1.take n).1) (ok := (r1.take n).2.1) (r' := (r1.take n).2.2) rfl
  cases h
  omega
theorem str_len {r r' : Rd} {s : List UInt8} (h : r.str 64 = (s, r')) : s.length ≤ 64 := by
  unfold Rd.str at h
  split at h
  rename_i n r1 e1
  have a := below_lt (by omega) e1
  cases h
  unfold Rd.take
  split
  · simp
  · split
    · simp
    · simp only [List.length_take]; omega
def zE : Ent := ⟨0, 0, noText⟩
/-- An entry, read: the fields first. -/
def midR (q : Rd) : Ent × Rd :=
  let a := q.below 4294967296
  let b := a.2.byte
  let c := b.2.str 64
  if a.1 = 0 then (zE, a.2) else (⟨a.1, b.1, ⟨c.1.toArray⟩⟩, c.2)
def stepR (q : Rd) : Ent × Rd := ((midR q).1, if 3 < (midR q).1.code then (midR q).2.bad else (midR q).2)
def rdK (q : Rd) : Nat → Rd
  | 0 => q
  | k + 1 => (stepR (rdK q k)).2
def entK (q : Rd) (k : Nat) : Ent := (stepR (rdK q k)).1
def tabK (q : Rd) (k : Nat) : Nat → Ent := fun i => if i < k then entK q i else zE
def takeT (q : Rd) : Nat → Ent := if (rdK q 4).err = 0 then tabK q 4 else fun _ => zE
theorem tabK_succ (q : Rd) (k : Nat) : tabK q (k + 1) = fun i => if i = k then entK q k else tabK q k i := by
  funext i
  unfold tabK
  by_cases h : i = k
  · subst h; rw [if_pos (by omega), if_pos rfl]
  · rw [if_neg h]
    by_cases h2 : i < k
    · rw [if_pos h2, if_pos (by omega)]
    · rw [if_neg h2, if_neg (by omega)]
theorem tabC_set (t : Nat → Ent) (k : Nat) (hk : k < 4) (x : Ent) :
    (((tabC t).setIfInBounds (3 * k) (.int .u32 (x.seq : Int))).setIfInBounds (3 * k + 1) (.int .u8 (x.code : Int))).setIfInBounds (3 * k + 2) (.string x.text) = tabC (fun i => if i = k then x else t i) := by
  rcases (show k = 0 ∨ k = 1 ∨ k = 2 ∨ k = 3 by omega) with rfl | rfl | rfl | rfl <;> rfl
theorem midR_eq {q r1 r2 r3 : Rd} {n c : Nat} {t : List UInt8} (e1 : q.below 4294967296 = (n, r1)) (e2 : r1.byte = (c, r2)) (e3 : r2.str 64 = (t, r3)) : midR q = if n = 0 then (zE, r1) else (⟨n, c, ⟨t.toArray⟩⟩, r3) := by
  unfold midR
  rw [e1]
  simp only
  rw [e2]
  simp only
  rw [e3]
theorem parts (q : Rd) : ∃ n c t r1 r2 r3, q.below 4294967296 = (n, r1) ∧ r1.byte = (c, r2) ∧ r2.str 64 = (t, r3) := ⟨_, _, _, _, _, _, rfl, rfl, rfl⟩
theorem midR_rest (q : Rd) : (midR q).2.rest.length ≤ q.rest.length := by
  obtain ⟨n, c, t, r1, r2, r3, e1, e2, e3⟩ := parts q
  rw [midR_eq e1 e2 e3]
  have a := below_rest e1
  have b := byte_rest e2
  have d := str_rest e3
  split
  · exact a
  · simp only; omega
theorem stepR_rest (q : Rd) : (stepR q).2.rest.length ≤ q.rest.length := by
  have a := midR_rest q
  unfold stepR
  simp only
  split
  · unfold Rd.bad; rw [fail_rest]; exact a
  · exact a
theorem rdK_rest (q : Rd) (k : Nat) : (rdK q k).rest.length ≤ q.rest.length := by
  induction k with
  | zero => exact Nat.le_refl _
  | succ k ih => exact Nat.le_trans (stepR_rest _) ih
theorem midR_lt (q : Rd) : (midR q).1.seq < 4294967296 ∧ (midR q).1.code < 256 ∧ (midR q).1.text.size ≤ 64 := by
  obtain ⟨n, c, t, r1, r2, r3, e1, e2, e3⟩ := parts q
  rw [midR_eq e1 e2 e3]
  have a := below_lt (by omega) e1
  have b := byte_lt e2
  have d := str_len e3
  split
  · exact ⟨by show 0 < _; omega, by show 0 < _; omega, by simp [zE, noText, ByteArray.size]⟩
  · exact ⟨a, b, by rw [size_str]; exact d⟩
/-- What the document keeps. -/
def kpK (q : Rd) (c : Nat) : Kp := ⟨c, (entK q c).seq, (entK q c).code, (entK q c).text⟩
def listK (q : Rd) : Nat → List Kp
  | 0 => []
  | k + 1 => if (entK q k).seq = 0 then listK q k else listK q k ++ [kpK q k]
def takeL (q : Rd) : List Kp := if (rdK q 4).err = 0 then listK q 4 else []
theorem listK_len (q : Rd) (k : Nat) : (listK q k).length ≤ k := by
  induction k with
  | zero => exact Nat.le_refl _
  | succ k ih =>
    unfold listK
    split
    · omega
    · rw [List.length_append]; simp only [List.length_cons, List.length_nil]; omega
theorem entK_zero (q : Rd) (k : Nat) (h : (entK q k).seq = 0) : entK q k = zE := by
  unfold entK stepR at *
  simp only at *
  generalize rdK q k = r at *
  obtain ⟨n, c, t, r1, r2, r3, e1, e2, e3⟩ := parts r
  rw [midR_eq e1 e2 e3] at *
  by_cases h1 : n = 0
  · rw [if_pos h1]
  · rw [if_neg h1] at h
    exact absurd h h1
theorem last_list (q : Rd) (k c : Nat) : tabOf (listK q k) c = tabK q k c := by
  induction k with
  | zero => unfold tabOf listK lastL tabK; rfl
  | succ k ih =>
    rw [tabK_succ]
    simp only
    unfold listK
    by_cases hs : (entK q k).seq = 0
    · rw [if_pos hs, ih]
      by_cases hc : c = k
      · subst hc
        rw [if_pos rfl, entK_zero q c hs]
        unfold tabK
        rw [if_neg (by omega)]
      · rw [if_neg hc]
    · rw [if_neg hs]
      by_cases hc : c = k
      · subst hc
        rw [if_pos rfl]
        unfold tabOf
        rw [lastL_snoc]
        have e : (kpK q c).client = c := rfl
        rw [if_pos e]
        rfl
      · rw [if_neg hc, ← ih]
        unfold tabOf
        have e : ¬ (kpK q k).client = c := fun h => hc h.symm
        rw [lastL_snoc, if_neg e]
theorem take_tab (q : Rd) : tabOf (takeL q) = takeT q := by
  funext c
  unfold takeL takeT
  split
  · exact last_list q 4 c
  · unfold tabOf lastL zE; rfl
end Go.Proofs.Ytgbnaifjdfoahaa.Sess
