/- The document's client in plain Lean, and that package client does as it says. No program in sight. No conditions. -/
import Derived.Test.YteiaiilfekojfaaCliP
namespace Go.Proofs.Yteiaiilfekojfaa.Cli
open Go.RowKit Wire Cmd

structure Rc where
  id : Nat
  n : Nat
  L : List Cm
  waits : Bool
  dst : Nat
def lastR (L : List Cm) : Cm := L.getLast?.getD cm0
def Rc.new (id n : Nat) : Rc := ⟨id, n, [], false, id % n⟩
def askR (r : Rc) : Lt := { lt0 with src := 16 + r.id, dst := r.dst, kind := 1, cmd := lastR r.L }
def stampR (r : Rc) (c : Cm) : Cm := { c with client := r.id, seq := r.L.length + 1 }
def invR (r : Rc) (c : Cm) : Rc × Lt × Nat :=
  if r.waits then (r, lt0, 13)
  else if mayB (stampR r c) then ({ r with L := r.L ++ [stampR r c], waits := true }, askR { r with L := r.L ++ [stampR r c], waits := true }, 0)
  else (r, lt0, 2)
def turnR (r : Rc) : Nat := if r.dst + 1 = r.n then 0 else r.dst + 1
def nudR (r : Rc) : Rc × Lt × Nat := if r.waits then ({ r with dst := turnR r }, askR { r with dst := turnR r }, 0) else (r, lt0, 13)
def forR (r : Rc) (l : Lt) : Bool := r.waits && decide (l.dst = 16 + r.id) && decide (l.src < r.n) && (decide (l.cmd.client = (lastR r.L).client) && decide (l.cmd.seq = (lastR r.L).seq))
def hearR (r : Rc) (l : Lt) : Rc × Lt × Bool × (Nat × List UInt8) × Bool :=
  if forR r l = false then (r, lt0, false, (0, []), false)
  else if l.kind = 3 ∧ l.node < r.n then ({ r with dst := l.node }, askR { r with dst := l.node }, true, (0, []), false)
  else if l.kind = 2 ∧ l.code ≠ 3 then ({ r with waits := false }, lt0, false, (l.code, l.text), true)
  else (r, lt0, false, (0, []), false)
structure Rel (x : Cl) (r : Rc) : Prop where
  id : x.id = r.id
  n : x.n = r.n
  node : x.node = r.dst
  waits : x.waits = r.waits
  seq : x.seq = r.L.length
  cmd : x.waits = true → x.cmd = lastR r.L
theorem last_snoc (L : List Cm) (c : Cm) : lastR (L ++ [c]) = c := by unfold lastR; simp
theorem rel_new (id n : Nat) : Rel (cl0 id n) (Rc.new id n) := ⟨rfl, rfl, rfl, rfl, rfl, fun h => by cases h⟩
theorem ask_rel {x : Cl} {r : Rc} (h : Rel x r) (hw : x.waits = true) : askL x = askR r := by unfold askL askR; rw [h.id, h.node, h.cmd hw]
theorem stamp_rel {x : Cl} {r : Rc} (h : Rel x r) (c : Cm) : stamp x c = stampR r c := by unfold stamp stampR; rw [h.id, h.seq]
theorem inv_rel {x : Cl} {r : Rc} (h : Rel x r) (hl : r.L.length ≤ 1000) (c : Cm) : (invokeC x c).2 = (invR r c).2 ∧ Rel (invokeC x c).1 (invR r c).1 := by
  unfold invokeC invR
  rw [← h.waits]
  cases hw : x.waits
  · simp only [Bool.false_eq_true, if_false]
    rw [if_neg (by rw [h.seq]; omega), stamp_rel h]
    cases hm : mayB (stampR r c)
    · exact ⟨rfl, h⟩
    · have hr : Rel { x with seq := x.seq + 1, cmd := stampR r c, waits := true } { r with L := r.L ++ [stampR r c], waits := true } :=
        ⟨h.id, h.n, h.node, rfl, (by show x.seq + 1 = _; rw [h.seq]; simp), fun _ => (last_snoc _ _).symm⟩
      refine ⟨?_, hr⟩
      show (askL _, 0) = (askR _, 0)
      rw [ask_rel hr rfl]
  · exact ⟨rfl, h⟩
theorem nud_rel {x : Cl} {r : Rc} (h : Rel x r) (hf : x.node < x.n) : (nudgeC x).2 = (nudR r).2 ∧ Rel (nudgeC x).1 (nudR r).1 := by
  unfold nudgeC nudR
  by_cases hw : x.waits = true
  · have hw2 : r.waits = true := by rw [← h.waits]; exact hw
    rw [if_pos hw, if_pos hw2]
    have ht : (x.node + 1) % x.n = turnR r := by
      unfold turnR
      rw [← h.node, ← h.n]
      split
      · rename_i e; rw [e, Nat.mod_self]
      · exact Nat.mod_eq_of_lt (by omega)
    have hr : Rel { x with node := (x.node + 1) % x.n } { r with dst := turnR r } := ⟨h.id, h.n, ht, h.waits, h.seq, h.cmd⟩
    refine ⟨?_, hr⟩
    show (askL _, 0) = (askR _, 0)
    rw [ask_rel hr hw]
  · have hw2 : ¬ r.waits = true := by rw [← h.waits]; exact hw
    rw [if_neg hw, if_neg hw2]
    exact ⟨rfl, h⟩
theorem for_rel {x : Cl} {r : Rc} (h : Rel x r) (l : Lt) : forB x l = forR r l := by
  unfold forB forR
  rw [← h.waits, h.id, h.n]
  cases hw : x.waits
  · rfl
  · rw [h.cmd hw]
theorem hear_rel {x : Cl} {r : Rc} (h : Rel x r) (l : Lt) : (hearC x l).2 = (hearR r l).2 ∧ Rel (hearC x l).1 (hearR r l).1 := by
  unfold hearC hearR
  rw [for_rel h]
  by_cases hf : forR r l = false
  · rw [if_pos hf, if_pos hf]
    exact ⟨rfl, h⟩
  · rw [if_neg hf, if_neg hf]
    have hw : x.waits = true := by
      rw [h.waits]
      have hf : forR r l = true := by simpa using hf
      unfold forR at hf
      simp only [Bool.and_eq_true] at hf
      exact hf.1.1.1
    by_cases h3 : l.kind = 3 ∧ l.node < x.n
    · have h3r : l.kind = 3 ∧ l.node < r.n := by rw [← h.n]; exact h3
      rw [if_pos h3, if_pos h3r]
      have hr : Rel { x with node := l.node } { r with dst := l.node } := ⟨h.id, h.n, rfl, h.waits, h.seq, h.cmd⟩
      refine ⟨?_, hr⟩
      show (askL _, _) = (askR _, _)
      rw [ask_rel hr hw]
    · have h3r : ¬ (l.kind = 3 ∧ l.node < r.n) := by rw [← h.n]; exact h3
      rw [if_neg h3, if_neg h3r]
      by_cases h2 : l.kind = 2 ∧ l.code ≠ 3
      · rw [if_pos h2, if_pos h2]
        exact ⟨rfl, ⟨h.id, h.n, h.node, rfl, h.seq, fun e => by cases e⟩⟩
      · rw [if_neg h2, if_neg h2]
        exact ⟨rfl, h⟩
/-- The document's client, as long as it is a client's. -/
structure Rc.Fits (r : Rc) : Prop where
  h1 : r.id < 4
  h2 : 1 ≤ r.n
  h3 : r.n ≤ 7
  h4 : r.dst < r.n
  h5 : ∀ c ∈ r.L, c.Fits
end Go.Proofs.Yteiaiilfekojfaa.Cli
