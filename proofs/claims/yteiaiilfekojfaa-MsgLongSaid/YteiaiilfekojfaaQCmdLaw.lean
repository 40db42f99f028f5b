/- Plain laws: commands put one behind the other are read one by one; what was read was put; with the last byte gone the last one is cut short. No program in sight. Conditions: none but those each one names. -/
import Derived.Test.YteiaiilfekojfaaQCmdPut
import Derived.Test.YteiaiilfekojfaaWireLaw
namespace Go.Proofs.Yteiaiilfekojfaa.Cmd
open Go.RowKit Wire

theorem below_put_back (n m : Nat) (h : n < m) (hm : n < 18446744073709551616) (rest : List UInt8) : Rd.below ⟨0, numB n ++ rest⟩ m = (n, ⟨0, rest⟩) := by
  unfold Rd.below
  rw [num_put_back n hm]
  simp only
  rw [if_neg (by simp), if_neg (by omega)]
theorem str_put_most (s : List UInt8) (m : Nat) (h : s.length ≤ m) (hm : m ≤ 1000) (rest : List UInt8) : Rd.str ⟨0, strB s ++ rest⟩ (m : Int) = (s, ⟨0, rest⟩) := by
  unfold Rd.str strB
  have e : (max (m : Int) 0).toNat + 1 = m + 1 := by omega
  rw [e, List.append_assoc, below_put_back _ _ (by omega) (by omega)]
  simp only
  rw [take_ok _ _ (by simp)]
  simp
theorem byte_nat (x : Nat) (h : x < 256) (l : List UInt8) : Rd.byte ⟨0, UInt8.ofNat x :: l⟩ = (x, ⟨0, l⟩) := by
  rw [byte_cons, UInt8.toNat_ofNat', Nat.mod_eq_of_lt (by omega)]
theorem may_parts {c : Cm} (h : mayB c = true) : c.client < 4 ∧ c.kind ≤ 5 ∧ c.key.length ≤ 16 ∧ c.old.length ≤ 64 ∧ c.new.length ≤ 64 := by
  unfold mayB at h
  have h := of_decide_eq_true h
  omega
/-- WHAT WAS PUT IS READ. -/
theorem takeC_put (c : Cm) (h : mayB c = true) (hf : c.Fits) (rest : List UInt8) : takeC ⟨0, oneB c ++ rest⟩ = (c, ⟨0, rest⟩) := by
  obtain ⟨a, b, d, e, f⟩ := may_parts h
  have q1 := hf.h2
  have q2 := hf.h7
  obtain ⟨cl, sq, k, ky, od, nw, st⟩ := c
  simp only at a b d e f q1 q2
  unfold oneB
  simp only [List.cons_append, List.append_assoc, List.nil_append]
  rw [takeC_eq (byte_nat cl (by omega) _) (below_put_back sq 4294967296 (by omega) (by omega) _) (byte_nat k (by omega) _) (str_put_most ky 16 d (by omega) _) (str_put_most od 64 e (by omega) _) (str_put_most nw 64 f (by omega) _) (byte_nat st (by omega) rest)]
  rw [h]
  rfl
theorem byte_err {r : Rd} (h : r.byte.2.err = 0) : r.err = 0 := by
  by_cases e : r.err = 0
  · exact e
  · rw [byte_failed r e] at h; exact absurd h e
theorem below_failed (r : Rd) (n : Nat) (h : r.err ≠ 0) : r.below n = (0, r) := by
  unfold Rd.below; rw [num_failed r h]; simp only; rw [if_pos h]
theorem below_err {r : Rd} {n : Nat} (h : (r.below n).2.err = 0) : r.err = 0 := by
  by_cases e : r.err = 0
  · exact e
  · rw [below_failed r n e] at h; exact absurd h e
theorem str_failed (r : Rd) (m : Int) (h : r.err ≠ 0) : r.str m = ([], r) := by
  unfold Rd.str; rw [below_failed r _ h]; simp only; rw [take_failed r _ h]
theorem str_err {r : Rd} {m : Int} (h : (r.str m).2.err = 0) : r.err = 0 := by
  by_cases e : r.err = 0
  · exact e
  · rw [str_failed r m e] at h; exact absurd h e
theorem bad_zero {r : Rd} (h : r.bad.err = 0) : False := bad_err r h
theorem byte_back {s : List UInt8} {x : Nat} {r : Rd} (h : Rd.byte ⟨0, s⟩ = (x, r)) (h0 : r.err = 0) : s = UInt8.ofNat x :: r.rest := by
  match s with
  | [] => rw [byte_empty] at h; cases h; cases h0
  | b :: l => rw [byte_cons] at h; cases h; simp
theorem below_back {s : List UInt8} {n x : Nat} {r : Rd} (h : Rd.below ⟨0, s⟩ n = (x, r)) (h0 : r.err = 0) : s = numB x ++ r.rest ∧ x < n := by
  unfold Rd.below at h
  obtain ⟨v, r1, hv⟩ : ∃ v r1, Rd.num ⟨0, s⟩ = (v, r1) := ⟨_, _, rfl⟩
  rw [hv] at h
  simp only at h
  by_cases e1 : r1.err ≠ 0
  · rw [if_pos e1] at h; cases h; exact absurd h0 e1
  rw [if_neg e1] at h
  by_cases e2 : n ≤ v
  · rw [if_pos e2] at h
    cases h
    unfold Rd.fail at h0
    split at h0
    · cases h0
    · exact absurd h0 (by assumption)
  · rw [if_neg e2] at h
    cases h
    obtain ⟨er, rest⟩ := r
    have h0 : er = 0 := h0
    subst h0
    exact ⟨num_back s x rest hv, by omega⟩
theorem str_back {s t : List UInt8} {m : Int} {r : Rd} (h : Rd.str ⟨0, s⟩ m = (t, r)) (h0 : r.err = 0) : s = strB t ++ r.rest := by
  unfold Rd.str at h
  obtain ⟨n, r1, hv⟩ : ∃ n r1, Rd.below ⟨0, s⟩ ((max m 0).toNat + 1) = (n, r1) := ⟨_, _, rfl⟩
  rw [hv] at h
  simp only at h
  have hr : r1.err = 0 := by
    by_cases e : r1.err = 0
    · exact e
    · rw [take_failed r1 n e] at h; cases h; exact absurd h0 e
  obtain ⟨hs, _⟩ := below_back hv hr
  obtain ⟨er, rest⟩ := r1
  have hr : er = 0 := hr
  subst hr
  by_cases e : n ≤ rest.length
  · rw [take_ok rest n e] at h
    cases h
    have hl : (rest.take n).length = n := by rw [List.length_take]; omega
    unfold strB
    rw [hl, hs]
    simp
  · rw [take_short rest n (by omega)] at h
    cases h
    cases h0
theorem rd_zero {r : Rd} (h : r.err = 0) : r = ⟨0, r.rest⟩ := by obtain ⟨e, l⟩ := r; have h : e = 0 := h; subst h; rfl
theorem snd_eq {α β : Type} {p : α × β} {a : α} {b : β} (h : p = (a, b)) : p.2 = b := by rw [h]
/-- WHAT WAS READ WAS PUT. -/
theorem takeC_back {r : Rd} (h : (takeC r).2.err = 0) : r.err = 0 ∧ r.rest = oneB (takeC r).1 ++ (takeC r).2.rest ∧ mayB (takeC r).1 = true := by
  obtain ⟨r1, r2, r3, r4, r5, r6, r7, a, b, k, z, s, t, u, e1, e2, e3, e4, e5, e6, e7, _⟩ := takeC_parts r
  rw [takeC_eq e1 e2 e3 e4 e5 e6 e7] at h ⊢
  simp only at h ⊢
  by_cases hm : mayB ⟨a, b, k, s, t, u, z⟩ = true
  · rw [if_pos hm] at h ⊢
    rw [if_pos h]
    have h7 := h
    have h6 : r6.err = 0 := byte_err (by rw [snd_eq e7]; exact h7)
    have h5 : r5.err = 0 := str_err (by rw [snd_eq e6]; exact h6)
    have h4 : r4.err = 0 := str_err (by rw [snd_eq e5]; exact h5)
    have h3 : r3.err = 0 := str_err (by rw [snd_eq e4]; exact h4)
    have h2 : r2.err = 0 := byte_err (by rw [snd_eq e3]; exact h3)
    have h1 : r1.err = 0 := below_err (by rw [snd_eq e2]; exact h2)
    have h0 : r.err = 0 := byte_err (by rw [snd_eq e1]; exact h1)
    refine ⟨h0, ?_, hm⟩
    rw [rd_zero h0] at e1
    rw [rd_zero h1] at e2
    rw [rd_zero h2] at e3
    rw [rd_zero h3] at e4
    rw [rd_zero h4] at e5
    rw [rd_zero h5] at e6
    rw [rd_zero h6] at e7
    have b1 := byte_back e1 h1
    have b2 := (below_back e2 h2).1
    have b3 := byte_back e3 h3
    have b4 := str_back e4 h4
    have b5 := str_back e5 h5
    have b6 := str_back e6 h6
    have b7 := byte_back e7 h7
    unfold oneB
    simp only [List.cons_append, List.append_assoc, List.nil_append]
    rw [← b7, ← b6, ← b5, ← b4, ← b3, ← b2, ← b1]
  · rw [if_neg hm] at h
    exact (bad_zero h).elim
/-- Errors are none, 3 and 4. -/
def Rd.Ok (r : Rd) : Prop := r.err = 0 ∨ r.err = 3 ∨ r.err = 4
theorem ok_fail {r : Rd} (h : Rd.Ok r) (e : Nat) (he : e = 3 ∨ e = 4) : Rd.Ok (r.fail e) := by
  unfold Rd.fail
  split
  · exact .inr he
  · exact h
theorem ok_take {r : Rd} (h : Rd.Ok r) (n : Nat) : Rd.Ok (r.take n).2.2 := by
  unfold Rd.take
  split
  · exact h
  · split
    · exact ok_fail h 3 (.inl rfl)
    · exact h
theorem ok_byte {r : Rd} (h : Rd.Ok r) : Rd.Ok r.byte.2 := by
  have := ok_take h 1
  unfold Rd.byte
  split
  · rename_i e; rw [e] at this; exact this
  · rename_i e; rw [e] at this; exact this
theorem ok_num {r : Rd} (h : Rd.Ok r) : Rd.Ok r.num.2 := by
  have hb := ok_byte h
  unfold Rd.num
  split
  rename_i c r1 e
  rw [e] at hb
  split
  · exact hb
  · have ht := ok_take hb (c - 247)
    split
    · rename_i e2; rw [e2] at ht; exact ht
    · rename_i e2
      rw [e2] at ht
      split
      · exact ok_fail ht 4 (.inr rfl)
      · exact ht
theorem ok_below {r : Rd} (h : Rd.Ok r) (n : Nat) : Rd.Ok (r.below n).2 := by
  have hb := ok_num h
  unfold Rd.below
  split
  rename_i v r1 e
  rw [e] at hb
  split
  · exact hb
  · split
    · exact ok_fail hb 4 (.inr rfl)
    · exact hb
theorem ok_str {r : Rd} (h : Rd.Ok r) (m : Int) : Rd.Ok (r.str m).2 := by
  have hb := ok_below h ((max m 0).toNat + 1)
  unfold Rd.str
  split
  rename_i v r1 e
  rw [e] at hb
  exact ok_take hb v
theorem ok_takeC {r : Rd} (h : Rd.Ok r) : Rd.Ok (takeC r).2 := by
  have := ok_byte (ok_str (ok_str (ok_str (ok_byte (ok_below (ok_byte h) 4294967296)) 16) 64) 64)
  unfold takeC
  simp only
  split
  · exact this
  · exact ok_fail this 4 (.inr rfl)
theorem ok_rdN {r : Rd} (h : Rd.Ok r) (k : Nat) : Rd.Ok (rdN r k) := by
  induction k with
  | zero => exact h
  | succ k ih => exact ok_takeC ih
theorem ok_end {r : Rd} (h : Rd.Ok r) : Rd.Ok r.end_ := by
  unfold Rd.end_
  split
  · exact ok_fail h 4 (.inr rfl)
  · exact h
/-! ### Many commands -/
def AllMay (l : List Cm) : Prop := ∀ c ∈ l, mayB c = true ∧ c.Fits
def cmsB (l : List Cm) : List UInt8 := l.flatMap oneB
theorem cmsB_snoc (l : List Cm) (c : Cm) : cmsB (l ++ [c]) = cmsB l ++ oneB c := by simp [cmsB]
theorem many_put_at (l : List Cm) (h : AllMay l) (rest : List UInt8) (k : Nat) (hk : k ≤ l.length) : rdN ⟨0, cmsB l ++ rest⟩ k = ⟨0, cmsB (l.drop k) ++ rest⟩ ∧ lsN ⟨0, cmsB l ++ rest⟩ k = l.take k := by
  induction k with
  | zero => exact ⟨rfl, by simp [lsN]⟩
  | succ k ih =>
    obtain ⟨a, b⟩ := ih (by omega)
    have hd : l.drop k = l[k] :: l.drop (k + 1) := List.drop_eq_getElem_cons (by omega)
    have hc := h l[k] (List.getElem_mem _)
    show (takeC (rdN _ k)).2 = _ ∧ lsN _ k ++ [(takeC (rdN _ k)).1] = _
    have e : cmsB (l.drop k) ++ rest = oneB l[k] ++ (cmsB (l.drop (k + 1)) ++ rest) := by unfold cmsB; rw [hd, List.flatMap_cons, List.append_assoc]
    rw [a, b, e, takeC_put l[k] hc.1 hc.2]
    exact ⟨rfl, by rw [List.take_add_one, List.getElem?_eq_getElem (by omega)]; rfl⟩
theorem many_put (l : List Cm) (h : AllMay l) (rest : List UInt8) : rdN ⟨0, cmsB l ++ rest⟩ l.length = ⟨0, rest⟩ ∧ lsN ⟨0, cmsB l ++ rest⟩ l.length = l := by
  obtain ⟨a, b⟩ := many_put_at l h rest l.length (Nat.le_refl _)
  rw [a, b]
  simp [cmsB]
theorem many_back (r : Rd) (k : Nat) (h : (rdN r k).err = 0) : r.err = 0 ∧ r.rest = cmsB (lsN r k) ++ (rdN r k).rest ∧ AllMay (lsN r k) := by
  induction k with
  | zero => exact ⟨h, rfl, fun c hc => by cases hc⟩
  | succ k ih =>
    obtain ⟨a, b, c⟩ := takeC_back (r := rdN r k) h
    obtain ⟨d, e, f⟩ := ih a
    refine ⟨d, ?_, ?_⟩
    · show _ = cmsB (lsN r k ++ [(takeC (rdN r k)).1]) ++ (takeC (rdN r k)).2.rest
      rw [cmsB_snoc, List.append_assoc, ← b]
      exact e
    · intro x hx
      rcases List.mem_append.1 hx with hx | hx
      · exact f x hx
      · rw [List.mem_singleton.1 hx]; exact ⟨c, takeC_fits _⟩
theorem oneB_drop (c : Cm) : (oneB c).dropLast = UInt8.ofNat c.client :: (numB c.seq ++ (UInt8.ofNat c.kind :: (strB c.key ++ (strB c.old ++ strB c.new)))) := by
  have e : oneB c = (UInt8.ofNat c.client :: (numB c.seq ++ (UInt8.ofNat c.kind :: (strB c.key ++ (strB c.old ++ strB c.new))))) ++ [UInt8.ofNat c.set] := by unfold oneB; simp
  rw [e, List.dropLast_concat]
theorem takeC_cut (c : Cm) (h : mayB c = true) (hf : c.Fits) : (takeC ⟨0, (oneB c).dropLast⟩).2.err = 3 := by
  obtain ⟨a, b, d, e, f⟩ := may_parts h
  have q1 := hf.h2
  obtain ⟨cl, sq, k, ky, od, nw, st⟩ := c
  simp only at a b d e f q1
  rw [oneB_drop]
  simp only
  have e6 := str_put_most nw 64 f (by omega) []
  rw [List.append_nil] at e6
  rw [takeC_eq (byte_nat cl (by omega) _) (below_put_back sq 4294967296 (by omega) (by omega) _) (byte_nat k (by omega) _) (str_put_most ky 16 d (by omega) _) (str_put_most od 64 e (by omega) _) e6 byte_empty]
  simp only
  split <;> rfl
theorem many_cut (l : List Cm) (h : AllMay l) (hne : l ≠ []) : (rdN ⟨0, (cmsB l).dropLast⟩ l.length).err = 3 := by
  obtain ⟨i, c, rfl⟩ : ∃ i c, l = i ++ [c] := ⟨l.dropLast, l.getLast hne, (List.dropLast_concat_getLast hne).symm⟩
  have hc := h c (by simp)
  have hn : oneB c ≠ [] := by unfold oneB; simp
  obtain ⟨a, _⟩ := many_put i (fun x hx => h x (by simp [hx])) (oneB c).dropLast
  rw [cmsB_snoc, List.dropLast_append_of_ne_nil hn, List.length_append]
  show (takeC (rdN _ i.length)).2.err = 3
  rw [a]
  exact takeC_cut c hc.1 hc.2
/-- What a batch is as bytes. -/
def batchC (l : List Cm) : List UInt8 × Nat :=
  if 4 < l.length ∨ l.any (fun c => !mayB c) then ([], 2) else if l = [] then ([], 0) else (UInt8.ofNat l.length :: cmsB l, 0)
theorem batch_ok {l : List Cm} (hf : ∀ c ∈ l, c.Fits) (h : (batchC l).2 = 0) : l.length ≤ 4 ∧ AllMay l := by
  unfold batchC at h
  by_cases e : 4 < l.length ∨ l.any (fun c => !mayB c) = true
  · rw [if_pos e] at h; cases h
  · refine ⟨by omega, fun c hc => ⟨?_, hf c hc⟩⟩
    cases hm : mayB c
    · exact absurd (.inr (List.any_eq_true.2 ⟨c, hc, by rw [hm]; rfl⟩)) e
    · rfl
theorem batch_is {l : List Cm} (h4 : l.length ≤ 4) (hl : AllMay l) (hne : l ≠ []) : batchC l = (UInt8.ofNat l.length :: cmsB l, 0) := by
  unfold batchC
  rw [if_neg, if_neg hne]
  rintro (h | h)
  · omega
  · obtain ⟨c, hc, hm⟩ := List.any_eq_true.1 h
    rw [(hl c hc).1] at hm
    cases hm
/-- A batch is parsed to its commands. -/
theorem parse_batch {l : List Cm} (hf : ∀ c ∈ l, c.Fits) (h : (batchC l).2 = 0) : parseC (batchC l).1 = (l, 0) := by
  obtain ⟨h4, hl⟩ := batch_ok hf h
  by_cases hne : l = []
  · subst hne; rfl
  rw [batch_is h4 hl hne]
  have hp := List.length_pos_iff.2 hne
  obtain ⟨a, b⟩ := many_put l hl []
  rw [List.append_nil] at a b
  unfold parseC
  rw [if_neg (by simp), byte_nat _ (by omega)]
  simp only
  rw [if_neg (by omega), a, b]
  rfl
theorem batch_inj {l m : List Cm} (hf : ∀ c ∈ l, c.Fits) (hg : ∀ c ∈ m, c.Fits) (h : (batchC l).2 = 0) (h' : (batchC m).2 = 0) : (batchC l).1 = (batchC m).1 ↔ l = m := by
  constructor
  · intro e
    have a := parse_batch hf h
    rw [e, parse_batch hg h'] at a
    exact (congrArg Prod.fst a).symm
  · intro e; rw [e]
theorem parse_more {l : List Cm} (hf : ∀ c ∈ l, c.Fits) (h : (batchC l).2 = 0) : (parseC ((batchC l).1 ++ [0])).2 = 4 := by
  obtain ⟨h4, hl⟩ := batch_ok hf h
  by_cases hne : l = []
  · subst hne; rfl
  rw [batch_is h4 hl hne]
  have hp := List.length_pos_iff.2 hne
  obtain ⟨a, b⟩ := many_put l hl [0]
  unfold parseC
  rw [if_neg (by simp), List.cons_append, byte_nat _ (by omega)]
  simp only
  rw [if_neg (by omega), a, b]
  rfl
theorem parse_less {l : List Cm} (hf : ∀ c ∈ l, c.Fits) (h : (batchC l).2 = 0) (hne : l ≠ []) : 1 < (batchC l).1.length ∧ parseC (batchC l).1.dropLast = ([], 3) := by
  obtain ⟨h4, hl⟩ := batch_ok hf h
  rw [batch_is h4 hl hne]
  have hp := List.length_pos_iff.2 hne
  have hcb : cmsB l ≠ [] := by
    obtain ⟨c, m, rfl⟩ := List.exists_cons_of_ne_nil hne
    simp [cmsB, oneB]
  have hcp := List.length_pos_iff.2 hcb
  refine ⟨by simp; omega, ?_⟩
  have a := many_cut l hl hne
  simp only
  rw [List.dropLast_cons_of_ne_nil hcb]
  unfold parseC
  rw [if_neg (by simp), byte_nat _ (by omega)]
  simp only
  generalize rdN ⟨0, (cmsB l).dropLast⟩ l.length = q at *
  have he : q.end_.err = 3 := by
    unfold Rd.end_ Rd.fail
    split
    · rw [if_neg (by omega)]; exact a
    · exact a
  rw [if_neg (by omega), he, if_pos (by decide)]
theorem parse_errs (s : List UInt8) (h : (parseC s).2 ≠ 0) : (parseC s).1 = [] ∧ ((parseC s).2 = 3 ∨ (parseC s).2 = 4) := by
  revert h
  unfold parseC
  by_cases h0 : s = []
  · rw [if_pos h0]; intro h; exact absurd rfl h
  rw [if_neg h0]
  have ok := ok_byte (r := ⟨0, s⟩) (.inl rfl)
  generalize Rd.byte ⟨0, s⟩ = p at *
  simp only
  by_cases hb : p.1 = 0 ∨ 4 < p.1
  · rw [if_pos hb]; intro _; exact ⟨rfl, .inr rfl⟩
  rw [if_neg hb]
  by_cases he : (rdN p.2 p.1).end_.err ≠ 0
  · rw [if_pos he]
    intro _
    refine ⟨rfl, ?_⟩
    rcases ok_end (ok_rdN ok p.1) with h | h
    · exact absurd h he
    · exact h
  · rw [if_neg he]; intro h; exact absurd rfl h
theorem end_zero {r : Rd} (h : r.end_.err = 0) : r.err = 0 ∧ r.rest = [] := by
  unfold Rd.end_ at h
  by_cases e : 0 < r.rest.length
  · rw [if_pos e] at h
    unfold Rd.fail at h
    split at h
    · cases h
    · exact absurd h (by assumption)
  · rw [if_neg e] at h; exact ⟨h, List.eq_nil_of_length_eq_zero (by omega)⟩
/-- What was parsed, put again. -/
theorem parse_again (s : List UInt8) (h : (parseC s).2 = 0) : batchC (parseC s).1 = (s, 0) ∧ ∀ c ∈ (parseC s).1, c.Fits := by
  revert h
  unfold parseC
  by_cases h0 : s = []
  · subst h0; intro _; exact ⟨rfl, fun c hc => by cases hc⟩
  rw [if_neg h0]
  obtain ⟨n, r1, e1⟩ : ∃ n r1, Rd.byte ⟨0, s⟩ = (n, r1) := ⟨_, _, rfl⟩
  rw [e1]
  simp only
  by_cases hb : n = 0 ∨ 4 < n
  · rw [if_pos hb]; intro h; cases h
  rw [if_neg hb]
  by_cases he : (rdN r1 n).end_.err ≠ 0
  · rw [if_pos he]; intro h; exact absurd h he
  rw [if_neg he]
  intro _
  obtain ⟨ha, hr⟩ := end_zero (Decidable.not_not.1 he)
  obtain ⟨a, b, c⟩ := many_back r1 n ha
  have hs := byte_back e1 a
  have hl := lsN_len r1 n
  rw [hr, List.append_nil] at b
  refine ⟨?_, lsN_fits r1 n⟩
  rw [batch_is (by omega) c (fun h => by rw [h] at hl; simp at hl; omega), hl, ← b, ← hs]
end Go.Proofs.Yteiaiilfekojfaa.Cmd
