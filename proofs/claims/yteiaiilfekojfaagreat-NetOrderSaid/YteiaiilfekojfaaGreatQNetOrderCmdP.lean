/- Commands read from bytes: Take, the program's and the document's, as one function on readers; batches. Conditions: the bytes are at most 1,000,000. -/
import Derived.Test.YteiaiilfekojfaaGreatQNetOrderCmdTakeRef
import Derived.Test.YteiaiilfekojfaaGreatQNetOrderCmdCheck
import Derived.Test.YteiaiilfekojfaaGreatQNetOrderRowsReads
namespace Go.Proofs.YteiaiilfekojfaaGreat.Cmd
open Go.RowKit Wire

theorem below_less {r r' : Rd} {c n : Nat} (hn : 0 < n) (h : r.below n = (c, r')) : c < n := by
  unfold Rd.below at h
  split at h
  split at h
  · cases h; exact hn
  · split at h
    · cases h; exact hn
    · cases h; omega
theorem str_rest {r r' : Rd} {s : List UInt8} {m : Int} (h : r.str m = (s, r')) : r'.rest.length ≤ r.rest.length := by
  unfold Rd.str at h
  split at h
  rename_i n r1 e1
  have a := below_rest e1
  have b := take_rest (r := r1) (n := n) (s := (r1.take n).1) (ok := (r1.take n).2.1) (r' := (r1.take n).2.2) rfl
  cases h
  omega
theorem str_most {r r' : Rd} {s : List UInt8} {m : Nat} (h : r.str (m : Int) = (s, r')) : s.length ≤ m := by
  unfold Rd.str at h
  split at h
  rename_i n r1 e1
  have a := below_less (by omega) e1
  cases h
  unfold Rd.take
  split
  · simp
  · split
    · simp
    · simp only [List.length_take]; omega
theorem takeC_parts (r : Rd) : ∃ r1 r2 r3 r4 r5 r6 r7 a b k z s t u, r.byte = (a, r1) ∧ r1.below 4294967296 = (b, r2) ∧ r2.byte = (k, r3) ∧ r3.str 16 = (s, r4) ∧ r4.str 64 = (t, r5) ∧ r5.str 64 = (u, r6) ∧ r6.byte = (z, r7) ∧
    Cm.Fits ⟨a, b, k, s, t, u, z⟩ ∧ r1.rest.length ≤ r.rest.length ∧ r2.rest.length ≤ r.rest.length ∧ r3.rest.length ≤ r.rest.length ∧ r4.rest.length ≤ r.rest.length ∧ r5.rest.length ≤ r.rest.length ∧ r6.rest.length ≤ r.rest.length ∧ r7.rest.length ≤ r.rest.length ∧ s.length ≤ 16 ∧ t.length ≤ 64 ∧ u.length ≤ 64 := by
  obtain ⟨a, r1, e1⟩ : ∃ a r1, r.byte = (a, r1) := ⟨_, _, rfl⟩
  obtain ⟨b, r2, e2⟩ : ∃ b r2, r1.below 4294967296 = (b, r2) := ⟨_, _, rfl⟩
  obtain ⟨k, r3, e3⟩ : ∃ k r3, r2.byte = (k, r3) := ⟨_, _, rfl⟩
  obtain ⟨s, r4, e4⟩ : ∃ s r4, r3.str 16 = (s, r4) := ⟨_, _, rfl⟩
  obtain ⟨t, r5, e5⟩ : ∃ t r5, r4.str 64 = (t, r5) := ⟨_, _, rfl⟩
  obtain ⟨u, r6, e6⟩ : ∃ u r6, r5.str 64 = (u, r6) := ⟨_, _, rfl⟩
  obtain ⟨z, r7, e7⟩ : ∃ z r7, r6.byte = (z, r7) := ⟨_, _, rfl⟩
  have l1 := byte_rest e1
  have l2 := below_rest e2
  have l3 := byte_rest e3
  have l4 := str_rest e4
  have l5 := str_rest e5
  have l6 := str_rest e6
  have l7 := byte_rest e7
  have m4 := str_most (m := 16) e4
  have m5 := str_most (m := 64) e5
  have m6 := str_most (m := 64) e6
  exact ⟨r1, r2, r3, r4, r5, r6, r7, a, b, k, z, s, t, u, e1, e2, e3, e4, e5, e6, e7, ⟨byte_lt e1, below_less (by omega) e2, byte_lt e3, by simp only; omega, by simp only; omega, by simp only; omega, byte_lt e7⟩,
    by omega, by omega, by omega, by omega, by omega, by omega, by omega, m4, m5, m6⟩
theorem takeC_eq {r r1 r2 r3 r4 r5 r6 r7 : Rd} {a b k z : Nat} {s t u : List UInt8} (e1 : r.byte = (a, r1)) (e2 : r1.below 4294967296 = (b, r2)) (e3 : r2.byte = (k, r3)) (e4 : r3.str 16 = (s, r4)) (e5 : r4.str 64 = (t, r5)) (e6 : r5.str 64 = (u, r6)) (e7 : r6.byte = (z, r7)) :
    takeC r = (if (if mayB ⟨a, b, k, s, t, u, z⟩ then r7 else r7.bad).err = 0 then ⟨a, b, k, s, t, u, z⟩ else cm0, if mayB ⟨a, b, k, s, t, u, z⟩ then r7 else r7.bad) := by
  unfold takeC; rw [e1]; simp only; rw [e2]; simp only; rw [e3]; simp only; rw [e4]; simp only; rw [e5]; simp only; rw [e6]; simp only; rw [e7]
theorem takeC_rest (r : Rd) : (takeC r).2.rest.length ≤ r.rest.length := by
  obtain ⟨r1, r2, r3, r4, r5, r6, r7, a, b, k, z, s, t, u, e1, e2, e3, e4, e5, e6, e7, _, _, _, _, _, _, _, l7, _⟩ := takeC_parts r
  rw [takeC_eq e1 e2 e3 e4 e5 e6 e7]
  simp only
  split
  · exact l7
  · unfold Rd.bad; rw [fail_rest]; exact l7
theorem cm0_fits : cm0.Fits := ⟨by decide, by decide, by decide, by decide, by decide, by decide, by decide⟩
theorem takeC_fits (r : Rd) : (takeC r).1.Fits := by
  obtain ⟨r1, r2, r3, r4, r5, r6, r7, a, b, k, z, s, t, u, e1, e2, e3, e4, e5, e6, e7, hf, _⟩ := takeC_parts r
  rw [takeC_eq e1 e2 e3 e4 e5 e6 e7]
  have : ∀ (p : Prop) [Decidable p], (if p then (⟨a, b, k, s, t, u, z⟩ : Cm) else cm0).Fits := fun p _ => by
    by_cases h : p
    · rw [if_pos h]; exact hf
    · rw [if_neg h]; exact cm0_fits
  exact this _
theorem take_any (g : Nat) (r : Rd) (hl : r.rest.length ≤ 1000000) (w : World) (h : RdAt w g r) :
    Calls Tryz.prog 113 #[.pointer (some ⟨g, 0, none⟩)] w fun e w' => CmRet w g (takeC r) e w' := by
  obtain ⟨r1, r2, r3, r4, r5, r6, r7, a, b, k, z, s, t, u, e1, e2, e3, e4, e5, e6, e7, hf, l1, l2, l3, l4, l5, l6, l7, _⟩ := takeC_parts r
  exact take_cmd g r r1 r2 r3 r4 r5 r6 r7 a b k z s t u hf (by omega) (by omega) (by omega) (by omega) (by omega) (by omega) (by omega) e1 e2 e3 e4 e5 e6 e7 w h
end Go.Proofs.YteiaiilfekojfaaGreat.Cmd
