/- A table's bytes, there and back, in plain Lean. Conditions: none. -/
import Derived.Test.YtgbnaifjdfoahaaSessEq
import Derived.Test.YtgbnaifjdfoahaaWireLaw
namespace Go.Proofs.Ytgbnaifjdfoahaa.Sess
open Go.RowKit Wire

/-- An entry as the law asks for it. -/
def Ent.Good (e : Ent) : Prop := e.seq < 4294967296 ∧ e.code ≤ 3 ∧ e.text.size ≤ 64 ∧ (e.seq = 0 → e = zE)
theorem Ent.Good.ok {e : Ent} (h : e.Good) : e.Ok := ⟨h.1, by have := h.2.1; omega, by have := h.2.2.1; omega⟩
theorem below_put_back (n m : Nat) (hn : n < m) (hm : n < 18446744073709551616) (rest : List UInt8) : Rd.below ⟨0, numB n ++ rest⟩ m = (n, ⟨0, rest⟩) := by
  unfold Rd.below
  rw [num_put_back _ hm]
  simp only
  rw [if_neg (by simp), if_neg (by omega)]
theorem str_put_back (s : List UInt8) (h : s.length ≤ 64) (rest : List UInt8) : Rd.str ⟨0, strB s ++ rest⟩ 64 = (s, ⟨0, rest⟩) := by
  unfold Rd.str Rd.below strB
  rw [List.append_assoc, num_put_back _ (by omega)]
  have e : (max (64 : Int) 0).toNat + 1 = 65 := rfl
  simp only [e]
  rw [if_neg (by simp), if_neg (by omega)]
  simp only
  rw [take_ok _ _ (by simp)]
  simp
theorem step_put (e : Ent) (h : e.Good) (rest : List UInt8) : stepR ⟨0, entB e ++ rest⟩ = (e, ⟨0, rest⟩) := by
  obtain ⟨h1, h2, h3, h4⟩ := h
  have hm : midR ⟨0, entB e ++ rest⟩ = (e, ⟨0, rest⟩) := by
    by_cases h0 : e.seq = 0
    · have e1 : entB e = numB 0 := by unfold entB; rw [h0, if_pos rfl]; simp
      have p1 := below_put_back 0 4294967296 (by omega) (by omega) rest
      obtain ⟨n, c, t, r1, r2, r3, q1, q2, q3⟩ := parts ⟨0, entB e ++ rest⟩
      rw [midR_eq q1 q2 q3]
      rw [e1, p1] at q1
      cases q1
      rw [if_pos rfl, h4 h0]
    · obtain ⟨es, ec, ⟨⟨et⟩⟩⟩ := e
      have e1 : entB ⟨es, ec, ⟨⟨et⟩⟩⟩ = numB es ++ (UInt8.ofNat ec :: strB et) := by unfold entB; rw [if_neg h0]
      simp only at h0 h1 h2 h3
      rw [e1, List.append_assoc, List.cons_append]
      have p1 := below_put_back es 4294967296 h1 (by omega) (UInt8.ofNat ec :: (strB et ++ rest))
      have p2 := byte_cons (UInt8.ofNat ec) (strB et ++ rest)
      have p3 := str_put_back et (by rw [size_str] at h3; exact h3) rest
      have hc : (UInt8.ofNat ec).toNat = ec := by rw [UInt8.toNat_ofNat']; exact Nat.mod_eq_of_lt (by omega)
      rw [midR_eq p1 p2 p3, if_neg h0, hc]
  unfold stepR
  rw [hm]
  simp only
  rw [if_neg (by omega)]
theorem tabB_four (t : Nat → Ent) : tabB t = entB (t 0) ++ (entB (t 1) ++ (entB (t 2) ++ (entB (t 3) ++ []))) := by
  unfold tabB
  rw [tabTo_succ, tabTo_succ, tabTo_succ, tabTo_succ]
  simp [tabTo]
theorem rd_put (t : Nat → Ent) (h : ∀ c, c < 4 → (t c).Good) : rdK ⟨0, tabB t⟩ 4 = ⟨0, []⟩ ∧ ∀ c, c < 4 → entK ⟨0, tabB t⟩ c = t c := by
  have s0 := step_put (t 0) (h 0 (by omega)) (entB (t 1) ++ (entB (t 2) ++ (entB (t 3) ++ [])))
  have s1 := step_put (t 1) (h 1 (by omega)) (entB (t 2) ++ (entB (t 3) ++ []))
  have s2 := step_put (t 2) (h 2 (by omega)) (entB (t 3) ++ [])
  have s3 := step_put (t 3) (h 3 (by omega)) []
  have r0 : rdK ⟨0, tabB t⟩ 0 = ⟨0, entB (t 0) ++ (entB (t 1) ++ (entB (t 2) ++ (entB (t 3) ++ [])))⟩ := by rw [tabB_four]; rfl
  have r1 : rdK ⟨0, tabB t⟩ 1 = ⟨0, entB (t 1) ++ (entB (t 2) ++ (entB (t 3) ++ []))⟩ := by show (stepR (rdK _ 0)).2 = _; rw [r0, s0]
  have r2 : rdK ⟨0, tabB t⟩ 2 = ⟨0, entB (t 2) ++ (entB (t 3) ++ [])⟩ := by show (stepR (rdK _ 1)).2 = _; rw [r1, s1]
  have r3 : rdK ⟨0, tabB t⟩ 3 = ⟨0, entB (t 3) ++ []⟩ := by show (stepR (rdK _ 2)).2 = _; rw [r2, s2]
  have r4 : rdK ⟨0, tabB t⟩ 4 = ⟨0, []⟩ := by show (stepR (rdK _ 3)).2 = _; rw [r3, s3]
  refine ⟨r4, fun c hc => ?_⟩
  unfold entK
  rcases (show c = 0 ∨ c = 1 ∨ c = 2 ∨ c = 3 by omega) with rfl | rfl | rfl | rfl
  · rw [r0, s0]
  · rw [r1, s1]
  · rw [r2, s2]
  · rw [r3, s3]
theorem tabC_ext {a b : Nat → Ent} (h : ∀ c, c < 4 → a c = b c) : tabC a = tabC b := by
  unfold tabC
  rw [h 0 (by omega), h 1 (by omega), h 2 (by omega), h 3 (by omega)]
theorem take_put (t : Nat → Ent) (h : ∀ c, c < 4 → (t c).Good) : tabC (takeT ⟨0, tabB t⟩) = tabC t := by
  obtain ⟨h1, h2⟩ := rd_put t h
  apply tabC_ext
  intro c hc
  unfold takeT
  rw [h1, if_pos rfl]
  unfold tabK
  rw [if_pos hc, h2 c hc]
/-- Two tables have the same bytes just if they are the same. -/
theorem tabB_inj (a b : Nat → Ent) (ha : ∀ c, c < 4 → (a c).Good) (hb : ∀ c, c < 4 → (b c).Good) : tabB a = tabB b ↔ eqT a b = true := by
  rw [eqT_iff]
  constructor
  · intro h c hc
    rw [← (rd_put a ha).2 c hc, ← (rd_put b hb).2 c hc, h]
  · intro h
    rw [tabB_four, tabB_four, h 0 (by omega), h 1 (by omega), h 2 (by omega), h 3 (by omega)]
/-! ### Back -/
theorem fail_err (r : Rd) (e : Nat) (he : e ≠ 0) : (r.fail e).err ≠ 0 := by
  unfold Rd.fail
  by_cases h : r.err = 0
  · rw [if_pos h]; exact he
  · rw [if_neg h]; exact h
theorem below_failed (r : Rd) (n : Nat) (h : r.err ≠ 0) : r.below n = (0, r) := by
  unfold Rd.below
  rw [num_failed r h]
  simp only
  rw [if_pos h]
theorem str_failed (r : Rd) (m : Int) (h : r.err ≠ 0) : (r.str m).2.err ≠ 0 := by
  unfold Rd.str
  rw [below_failed r _ h]
  simp only
  rw [take_failed r _ h]
  exact h
theorem below_back {s rest : List UInt8} {n v : Nat} (h : Rd.below ⟨0, s⟩ n = (v, ⟨0, rest⟩)) : s = numB v ++ rest := by
  obtain ⟨x, r1, e1⟩ : ∃ x r1, Rd.num ⟨0, s⟩ = (x, r1) := ⟨_, _, rfl⟩
  unfold Rd.below at h
  rw [e1] at h
  simp only at h
  split at h
  · rename_i h0
    cases h
    exact absurd rfl h0
  · split at h
    · have e := congrArg (fun p => p.2.err) h
      exact absurd e (fail_err r1 4 (by omega))
    · cases h
      exact num_back s _ _ e1
theorem byte_back {s rest : List UInt8} {c : Nat} (h : Rd.byte ⟨0, s⟩ = (c, ⟨0, rest⟩)) : s = UInt8.ofNat c :: rest := by
  cases s with
  | nil => rw [byte_empty] at h; cases h
  | cons b l =>
    rw [byte_cons] at h
    cases h
    simp
theorem str_back {s rest t : List UInt8} (h : Rd.str ⟨0, s⟩ 64 = (t, ⟨0, rest⟩)) : s = strB t ++ rest := by
  obtain ⟨n, r1, e1⟩ : ∃ x r1, Rd.below ⟨0, s⟩ ((max (64 : Int) 0).toNat + 1) = (x, r1) := ⟨_, _, rfl⟩
  unfold Rd.str at h
  rw [e1] at h
  simp only at h
  by_cases h0 : r1.err = 0
  · obtain ⟨re, rl⟩ := r1
    simp only at h0
    subst h0
    by_cases hn : n ≤ rl.length
    · rw [take_ok _ _ hn] at h
      cases h
      have e := below_back e1
      unfold strB
      rw [e, List.length_take, Nat.min_eq_left hn, List.append_assoc, List.take_append_drop]
    · rw [take_short _ _ (by omega)] at h
      cases h
  · rw [take_failed r1 _ h0] at h
    cases h
    exact absurd rfl h0
theorem step_zero {r q : Rd} (h : midR r = (zE, q)) : stepR r = (zE, q) := by
  have e : (midR r).1.code = 0 := by rw [h]; rfl
  unfold stepR
  rw [if_neg (by omega), h]
theorem step_err (r : Rd) (h : (stepR r).2.err = 0) : r.err = 0 := by
  by_cases h0 : r.err = 0
  · exact h0
  exfalso
  obtain ⟨n, c, t, r1, r2, r3, q1, q2, q3⟩ := parts r
  have hm := midR_eq q1 q2 q3
  rw [below_failed r _ h0] at q1
  cases q1
  rw [if_pos rfl] at hm
  rw [step_zero hm] at h
  exact h0 h
theorem step_back (s : List UInt8) (h : (stepR ⟨0, s⟩).2.err = 0) : s = entB (stepR ⟨0, s⟩).1 ++ (stepR ⟨0, s⟩).2.rest := by
  obtain ⟨n, c, t, r1, r2, r3, q1, q2, q3⟩ := parts ⟨0, s⟩
  have hm := midR_eq q1 q2 q3
  by_cases h0 : n = 0
  · rw [if_pos h0] at hm
    rw [step_zero hm] at h ⊢
    obtain ⟨re, rl⟩ := r1
    simp only at h
    subst h
    rw [below_back q1, h0]
    unfold entB zE
    simp
  · rw [if_neg h0] at hm
    unfold stepR at h ⊢
    rw [hm] at h ⊢
    simp only at h ⊢
    by_cases hc : 3 < c
    · rw [if_pos hc] at h
      exact absurd h (fail_err r3 4 (by omega))
    · rw [if_neg hc] at h ⊢
      have e2 : r2.err = 0 := by
        by_cases h2 : r2.err = 0
        · exact h2
        · have := str_failed r2 64 h2
          rw [q3] at this
          exact absurd h this
      have e1 : r1.err = 0 := by
        by_cases h1 : r1.err = 0
        · exact h1
        · rw [byte_failed r1 h1] at q2
          cases q2
          exact absurd e2 h1
      obtain ⟨a1, l1⟩ := r1
      obtain ⟨a2, l2⟩ := r2
      obtain ⟨a3, l3⟩ := r3
      simp only at e1 e2 h
      subst e1; subst e2; subst h
      have f1 := below_back q1
      have f2 := byte_back q2
      have f3 := str_back q3
      unfold entB
      simp only
      rw [if_neg h0, List.append_assoc, List.cons_append, ← f3, ← f2, ← f1]
theorem rd_step (q : Rd) (k : Nat) (h : (rdK q (k + 1)).err = 0) : (rdK q k).err = 0 ∧ (rdK q k).rest = entB (entK q k) ++ (rdK q (k + 1)).rest := by
  have h1 : (rdK q k).err = 0 := step_err _ h
  refine ⟨h1, ?_⟩
  have e : rdK q k = ⟨0, (rdK q k).rest⟩ := by rw [← h1]
  have h2 : (stepR (rdK q k)).2.err = 0 := h
  unfold entK
  show _ = _ ++ (stepR (rdK q k)).2.rest
  rw [e] at h2 ⊢
  exact step_back _ h2
/-- Bytes that are read wholly are written as themselves. -/
theorem take_whole (s : List UInt8) (h : (rdK ⟨0, s⟩ 4).end_.err = 0) : tabB (takeT ⟨0, s⟩) = s := by
  have hr : (rdK ⟨0, s⟩ 4).rest = [] ∧ (rdK ⟨0, s⟩ 4).err = 0 := by
    unfold Rd.end_ at h
    split at h
    · exact absurd h (fail_err _ 4 (by omega))
    · rename_i h0
      exact ⟨List.eq_nil_of_length_eq_zero (by omega), h⟩
  obtain ⟨e3, s3⟩ := rd_step _ 3 hr.2
  obtain ⟨e2, s2⟩ := rd_step _ 2 e3
  obtain ⟨e1, s1⟩ := rd_step _ 1 e2
  obtain ⟨e0, s0⟩ := rd_step _ 0 e1
  have hs : (rdK ⟨0, s⟩ 0).rest = s := rfl
  rw [hs] at s0
  have ht : ∀ c, c < 4 → takeT ⟨0, s⟩ c = entK ⟨0, s⟩ c := fun c hc => by
    unfold takeT
    rw [if_pos hr.2]
    unfold tabK
    rw [if_pos hc]
  rw [tabB_four, ht 0 (by omega), ht 1 (by omega), ht 2 (by omega), ht 3 (by omega)]
  rw [hr.1] at s3
  rw [← s3, ← s2, ← s1, ← s0]
theorem takeT_ok (q : Rd) (c : Nat) : (takeT q c).Ok := by
  have hz : zE.Ok := ⟨by show 0 < _; omega, by show 0 < _; omega, by simp [zE, noText, ByteArray.size]⟩
  unfold takeT
  split
  · unfold tabK
    split
    · unfold entK stepR
      obtain ⟨a, b, d⟩ := midR_lt (rdK q c)
      exact ⟨a, b, Nat.le_trans d (by omega)⟩
    · exact hz
  · exact hz
end Go.Proofs.Ytgbnaifjdfoahaa.Sess
