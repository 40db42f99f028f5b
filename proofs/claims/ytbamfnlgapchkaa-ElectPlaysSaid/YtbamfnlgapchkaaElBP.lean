/- What was chosen binds, in plain Lean. No program in sight. No conditions. -/
import Derived.Test.YtbamfnlgapchkaaElP
import Derived.Test.YtbamfnlgapchkaaElOpen
namespace Go.Proofs.Ytbamfnlgapchkaa.Ele
open Bal Mem

theorem lt_iff (a b : B) : ltB a b = true ↔ a.n < b.n ∨ (a.n = b.n ∧ a.r < b.r) := by unfold ltB; simp
theorem lt_no (a b : B) : ltB a b = false ↔ b.n < a.n ∨ (a.n = b.n ∧ b.r ≤ a.r) := by
  rw [← Bool.not_eq_true, lt_iff]
  omega
theorem no_trans {a b c : B} (h1 : ltB a b = false) (h2 : ltB b c = false) : ltB a c = false := by
  rw [lt_no] at *
  omega
theorem no_of_lt {a b : B} (h : ltB a b = true) : ltB b a = false := by
  rw [lt_iff] at h
  rw [lt_no]
  omega
theorem no_self (a : B) : ltB a a = false := by rw [lt_no]; omega
/-- A vote in a ballot that is none below 'fr'. -/
def cand (fr : B) (x : Vt) : Bool := !(decide (x.b = ⟨0, 0⟩)) && !(ltB x.b fr)
/-- Who voted so, one node more; whether all did for one value; that value. -/
structure Bi (V : List Vt) (fr : B) (i : Nat) (s : Nat) (one : Bool) (vl : List UInt8) : Prop where
  lt : s < 128
  who : ∀ j, j < 7 → (hasB s j = true ↔ (j < i ∧ ∃ x, V[j]? = some x ∧ cand fr x = true))
  val : one = true → ∀ (j : Nat) (x : Vt), j < i → V[j]? = some x → cand fr x = true → x.val = vl
theorem bi_zero (V : List Vt) (fr : B) : Bi V fr 0 0 true [] := ⟨by omega, fun j hj => by rw [has_bit' _ _ hj, Nat.zero_testBit]; simp, fun _ j x hj => by omega⟩
theorem bi_skip {V : List Vt} {fr : B} {i s : Nat} {one : Bool} {vl : List UInt8} {x : Vt} (h : Bi V fr i s one vl) (hx : V[i]? = some x) (hc : cand fr x = false) : Bi V fr (i + 1) s one vl := by
  refine ⟨h.lt, fun j hj => ?_, fun ho j y hj hy hcy => ?_⟩
  · rw [h.who j hj]
    constructor
    · rintro ⟨h1, h2⟩; exact ⟨by omega, h2⟩
    · rintro ⟨h1, y, hy, hcy⟩
      refine ⟨?_, y, hy, hcy⟩
      rcases Nat.lt_or_ge j i with h' | h'
      · exact h'
      · obtain rfl : j = i := by omega
        rw [hx] at hy; cases hy
        rw [hc] at hcy; cases hcy
  · rcases Nat.lt_or_ge j i with h' | h'
    · exact h.val ho j y h' hy hcy
    · obtain rfl : j = i := by omega
      rw [hx] at hy; cases hy
      rw [hc] at hcy; cases hcy
theorem has_with1 (s i j : Nat) (hj : j < 7) : hasB (withN s (ofN [i])) j = (hasB s j || decide (j = i)) := by
  rw [has_bit' _ _ hj, has_bit' _ _ hj, test_with _ _ _ hj, mem_of _ _ hj]
  simp
theorem has_none (j : Nat) (hj : j < 7) : hasB 0 j = false := by rw [has_bit' _ _ hj, Nat.zero_testBit]
theorem bi_take {V : List Vt} {fr : B} {i s : Nat} {one : Bool} {vl : List UInt8} {x : Vt} (h : Bi V fr i s one vl) (hi : i < 7) (hx : V[i]? = some x) (hc : cand fr x = true) : Bi V fr (i + 1) (withN s (ofN [i])) (one && (decide (s = 0) || decide (vl = x.val))) x.val := by
  refine ⟨with_lt _ _, fun j hj => ?_, fun ho j y hj hy hcy => ?_⟩
  · rw [has_with1 _ _ _ hj, Bool.or_eq_true, h.who j hj, decide_eq_true_iff]
    constructor
    · rintro (⟨h1, h2⟩ | rfl)
      · exact ⟨by omega, h2⟩
      · exact ⟨by omega, x, hx, hc⟩
    · rintro ⟨h1, h2⟩
      rcases Nat.lt_or_ge j i with h' | h'
      · exact .inl ⟨h', h2⟩
      · exact .inr (by omega)
  · rcases Nat.lt_or_ge j i with h' | h'
    · rw [Bool.and_eq_true, Bool.or_eq_true, decide_eq_true_iff, decide_eq_true_iff] at ho
      obtain ⟨h1, h2⟩ := ho
      have h3 := h.val h1 j y h' hy hcy
      rcases h2 with h2 | h2
      · have := (h.who j (by omega)).2 ⟨h', y, hy, hcy⟩
        rw [h2, has_none j (by omega)] at this
        cases this
      · rw [h3, h2]
    · obtain rfl : j = i := by omega
      rw [hx] at hy; cases hy
      rfl
/-- The vote that a node tells. -/
def toldV (V : List Vt) (slot n : Nat) : List Vt := match V[n]? with
  | some x => if x.b = ⟨0, 0⟩ then [] else [⟨slot, x.n, x.r, x.val⟩]
  | none => []
/-- What holds while nodes tell. -/
structure Te (V : List Vt) (slot : Nat) (q : Ro) : Prop where
  fl : q.floor = 0
  up : ∀ (j : Nat) (x : Vt), j < 7 → hasB q.who j = true → V[j]? = some x → x.b ≠ ⟨0, 0⟩ → ∃ o, q.F slot = some o ∧ ltB o.b x.b = false
  from_ : ∀ o, q.F slot = some o → ∃ (j : Nat) (x : Vt), j < 7 ∧ V[j]? = some x ∧ x.b ≠ ⟨0, 0⟩ ∧ o.val = x.val ∧ o.b = x.b
theorem te_new (V : List Vt) (slot n r : Nat) : Te V slot (Ro.new n r) := ⟨rfl, (fun j x hj hh => by
  rw [show (Ro.new n r).who = 0 from rfl, has_none j hj] at hh; cases hh), (fun o h => by cases h)⟩
theorem te_add {V : List Vt} {slot : Nat} {q : Ro} (h : Te V slot q) {n : Nat} (hn : n < 7) : Te V slot (q.add n 0 (toldV V slot n)) := by
  unfold Ro.add
  split
  rotate_left
  · exact h
  have hfl : (q.tell n 0).floor = 0 := by show (if q.floor < 0 then 0 else q.floor) = 0; rw [if_neg (by omega)]; exact h.fl
  obtain ⟨_, _, s3, s4, _⟩ := grow_same (toldV V slot n) (q.tell n 0)
  have hF := grow_F (toldV V slot n) (q.tell n 0) slot
  have hw : ∀ j, j < 7 → hasB ((toldV V slot n).foldl Ro.grow (q.tell n 0)).who j = (hasB q.who j || decide (j = n)) := fun j hj => by rw [s3]; exact has_with1 _ _ _ hj
  cases hv : V[n]? with
  | none =>
    have ht : toldV V slot n = [] := by unfold toldV; rw [hv]
    rw [ht] at hF hw s4 ⊢
    refine ⟨s4.trans hfl, fun j x hj hh hx hb => ?_, fun o ho => h.from_ o (by rw [hF] at ho; exact ho)⟩
    rw [hw j hj, Bool.or_eq_true, decide_eq_true_iff] at hh
    rcases hh with hh | rfl
    · obtain ⟨o, h1, h2⟩ := h.up j x hj hh hx hb
      exact ⟨o, by rw [hF]; exact h1, h2⟩
    · rw [hv] at hx; cases hx
  | some y =>
    by_cases hy : y.b = ⟨0, 0⟩
    · have ht : toldV V slot n = [] := by unfold toldV; rw [hv]; exact if_pos hy
      rw [ht] at hF hw s4 ⊢
      refine ⟨s4.trans hfl, fun j x hj hh hx hb => ?_, fun o ho => h.from_ o (by rw [hF] at ho; exact ho)⟩
      rw [hw j hj, Bool.or_eq_true, decide_eq_true_iff] at hh
      rcases hh with hh | rfl
      · obtain ⟨o, h1, h2⟩ := h.up j x hj hh hx hb
        exact ⟨o, by rw [hF]; exact h1, h2⟩
      · rw [hv] at hx; cases hx; exact absurd hy hb
    · have ht : toldV V slot n = [⟨slot, y.n, y.r, y.val⟩] := by unfold toldV; rw [hv]; exact if_neg hy
      rw [ht] at hF hw s4 ⊢
      have hF2 : ((([⟨slot, y.n, y.r, y.val⟩] : List Vt)).foldl Ro.grow (q.tell n 0)).F slot = bestF (q.F slot) ⟨slot, y.n, y.r, y.val⟩ slot := hF
      unfold bestF at hF2
      rw [if_pos rfl] at hF2
      refine ⟨s4.trans hfl, fun j x hj hh hx hb => ?_, fun o ho => ?_⟩
      · rw [hw j hj, Bool.or_eq_true, decide_eq_true_iff] at hh
        rw [hF2]
        rcases hh with hh | rfl
        · obtain ⟨o, h1, h2⟩ := h.up j x hj hh hx hb
          rw [h1]
          dsimp only
          split
          · rename_i hl
            exact ⟨_, rfl, no_trans (no_of_lt hl) h2⟩
          · exact ⟨o, rfl, h2⟩
        · rw [hv] at hx; cases hx
          cases hq : q.F slot with
          | none => exact ⟨_, rfl, no_self _⟩
          | some o =>
            dsimp only
            split
            · exact ⟨_, rfl, no_self _⟩
            · rename_i hl
              exact ⟨o, rfl, by simpa [Vt.b] using hl⟩
      · rw [hF2] at ho
        cases hq : q.F slot with
        | none =>
          rw [hq] at ho
          cases ho
          exact ⟨n, y, hn, hv, hy, rfl, rfl⟩
        | some o' =>
          rw [hq] at ho
          dsimp only at ho
          split at ho
          · cases ho; exact ⟨n, y, hn, hv, hy, rfl, rfl⟩
          · cases ho; exact h.from_ _ hq
theorem bit_of {x : Nat} (h : lenN x ≠ 0) : ∃ j, j < 7 ∧ x.testBit j = true := by
  rcases Classical.em (∃ j, j < 7 ∧ x.testBit j = true) with h' | h'
  · exact h'
  · exfalso
    have hz : ∀ j, j < 7 → bt x j = 0 := fun j hj => by
      unfold bt
      cases ht : x.testBit j
      · rfl
      · exact absurd ⟨j, hj, ht⟩ h'
    exact h (by unfold lenN; rw [hz 0 (by omega), hz 1 (by omega), hz 2 (by omega), hz 3 (by omega), hz 4 (by omega), hz 5 (by omega), hz 6 (by omega)])
/-- THE STAGE's THEOREM. -/
theorem binds {V : List Vt} {fr : B} {s : Nat} {vl : List UInt8} {slot c i : Nat} {q : Ro} (hb : Bi V fr i s true vl) (hi : i = 7 ∨ V.length ≤ i) (hm : majorB c s = true) (ht : Te V slot q) (hq : mayR q slot c = true) : boundB q slot = true ∧ boundV q slot = vl := by
  unfold mayR at hq
  rw [Bool.and_eq_true] at hq
  have hmt := meet_one c q.who s hq.2 hm
  obtain ⟨j, hj, hbit⟩ := bit_of hmt
  rw [test_both _ _ _ hj, test_both _ _ _ hj, Bool.and_eq_true, Bool.and_eq_true] at hbit
  have h1 : hasB q.who j = true := by rw [has_bit' _ _ hj]; exact hbit.1.1
  have h2 : hasB s j = true := by rw [has_bit' _ _ hj]; exact hbit.1.2
  obtain ⟨_, x, hx, hcx⟩ := (hb.who j hj).1 h2
  have hcx' := hcx
  unfold cand at hcx
  rw [Bool.and_eq_true] at hcx
  have hxb : x.b ≠ ⟨0, 0⟩ := by simpa using hcx.1
  have hxf : ltB x.b fr = false := by simpa using hcx.2
  obtain ⟨o, ho, hol⟩ := ht.up j x hj h1 hx hxb
  obtain ⟨k, y, hk, hy, hyb, hov, hob⟩ := ht.from_ o ho
  have hyf : ltB y.b fr = false := by rw [← hob]; exact no_trans hol hxf
  have hcy : cand fr y = true := by unfold cand; simp [hyb, hyf]
  have hkl : k < V.length := (List.getElem?_eq_some_iff.1 hy).1
  have hyv := hb.val rfl k y (by omega) hy hcy
  refine ⟨by unfold boundB; rw [ho]; rfl, ?_⟩
  unfold boundV
  rw [ho]
  show o.val = vl
  rw [hov, hyv]
end Go.Proofs.Ytbamfnlgapchkaa.Ele
