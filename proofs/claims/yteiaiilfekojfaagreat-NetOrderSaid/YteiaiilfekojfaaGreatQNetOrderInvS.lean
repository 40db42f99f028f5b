/- A drawn region that stores, walked by an invariant: some of its operations turn one block each (a store, a call); what these blocks hold is known ahead of it and behind it; all other blocks of before stay. No order is enumerated. Conditions: each such operation turns another block. -/
import Derived.Test.YteiaiilfekojfaaGreatQNetOrderInv
namespace Go.Proofs.YteiaiilfekojfaaGreat.DrawInv
open Go.RowKit

/-- All blocks but some stay. -/
structure Outs (S : List Nat) (w w' : World) : Prop where
  os : w'.os = w.os
  tape : w'.tape = w.tape
  output : w'.output = w.output
  size : w.heap.size ≤ w'.heap.size
  block : ∀ k, k < w.heap.size → k ∉ S → w'.heap[k]? = w.heap[k]?
theorem Outs.refl (S : List Nat) (w : World) : Outs S w w := ⟨rfl, rfl, rfl, Nat.le_refl _, fun _ _ _ => rfl⟩
theorem Outs.trans {S : List Nat} {a b c : World} (h : Outs S a b) (k : Outs S b c) : Outs S a c :=
  ⟨k.os.trans h.os, k.tape.trans h.tape, k.output.trans h.output, Nat.le_trans h.size k.size, fun i hi hn => (k.block i (Nat.lt_of_lt_of_le hi h.size) hn).trans (h.block i hi hn)⟩
theorem Outs.of_below {S : List Nat} {w w' : World} (h : Below w.heap.size w w') : Outs S w w' := ⟨h.os, h.tape, h.output, h.size, fun k hk _ => h.block k hk⟩
theorem Outs.of_grown {S : List Nat} {w w' : World} {g : Nat} (h : w.grownBy w' (some g)) (hg : g ∈ S) : Outs S w w' := ⟨h.os, h.tape, h.output, h.size, fun k hk hn => h.block k hk (fun e => hn (by cases e; exact hg))⟩
theorem Outs.below {S : List Nat} {w w' : World} {B : Nat} (h : Outs S w w') (hB : B ≤ w.heap.size) (hS : ∀ g ∈ S, B ≤ g) : Below B w w' := ⟨h.os, h.tape, h.output, h.size, fun k hk => h.block k (by omega) (fun hm => by have := hS k hm; omega)⟩
theorem Outs.cell {S : List Nat} {w w' : World} {p : Addr} (h : Outs S w w') (hp : p.block < w.heap.size) (hS : p.block ∉ S) : w'.cell? p = w.cell? p := World.cell?_of_block (h.block _ hp hS)
theorem Outs.grown {w w' : World} {g : Nat} (h : Outs [g] w w') : w.grownBy w' (some g) := ⟨h.os, h.tape, h.output, h.size, fun k hk hn => h.block k hk (fun hm => hn (by rw [List.mem_singleton.1 hm]))⟩

/-- An operation that turns a block: its number; the block, its type, what it holds ahead of it, and what is known of it behind. -/
abbrev Eff := Nat × Nat × TypeId × Array Value × (Array Value → World → Prop)
def Turned (w : World) (g : Nat) (t : TypeId) (New : Array Value → World → Prop) : Prop := ∃ cs, New cs w ∧ Blk w g t cs
section
variable {P : Program} {md : Region.Mode} {ops : Array Oper} {Q : Exit → Act → World → Prop} {V : Nat → Value → World → Prop} {w0 : World} {n : Nat} {es : List Eff} {S : List Nat}
/-- What is left behind an operation that turns a block. -/
def ResE (P : Program) (g : Nat) (t : TypeId) (new : Array Value → World → Prop) (V : Value → World → Prop) (w : World) (r : Result Next) : Prop :=
  (∃ v w', (r = .ok (.value v) w' ∨ (v = undef ∧ r = .ok .skip w')) ∧ V v w' ∧ Turned w' g t new ∧ w.grownBy w' (some g)) ∨
  (∃ f args, r = .ok (.enter f args) w ∧ Calls P f args w fun e w' => ∃ v, e = .returned v ∧ V v w' ∧ Turned w' g t new ∧ w.grownBy w' (some g))
def StepS (P : Program) (ops : Array Oper) (V : Nat → Value → World → Prop) (w0 : World) (S : List Nat) (es : List Eff) (i : Nat) (o : Oper) : Prop :=
  ∀ ρ w, Consts ρ → Outs S w0 w → (∀ t ∈ temps o, V t (ρ (.tmp t)) w) → (∀ j b oj dj, o.guard = some (j, b) → ops[j]? = some oj → oj.dst = some dj → V dj (ρ (.tmp dj)) w) →
    match es.lookup i with
    | none => ∀ d, o.dst = some d → (On ops ρ o.guard ∧ Res P (V d) w ((execOp ρ o).run P w)) ∨ (Off ops ρ o.guard ∧ V d undef w)
    | some (g, t, old, new) => Blk w g t old → On ops ρ o.guard ∧ ResE P g t new (fun v w' => ∀ d, o.dst = some d → V d v w') w ((execOp ρ o).run P w)
def StepsS (P : Program) (ops : Array Oper) (V : Nat → Value → World → Prop) (w0 : World) (S : List Nat) (es : List Eff) : Nat → List Oper → Prop
  | _, [] => True
  | i, o :: l => StepS P ops V w0 S es i o ∧ StepsS P ops V w0 S es (i + 1) l
theorem StepsS.all : ∀ {l : List Oper} {i : Nat}, StepsS P ops V w0 S es i l → ∀ (j : Nat) (o : Oper), l[j]? = some o → StepS P ops V w0 S es (i + j) o
  | [], _, _, j, o, h => by simp at h
  | x :: l, i, hs, 0, o, h => by simp at h; subst h; exact hs.1
  | x :: l, i, hs, j + 1, o, h => by
    rw [show i + (j + 1) = i + 1 + j by omega]
    exact StepsS.all hs.2 j o (by simpa using h)
theorem exec_store {ρ : Operand → Value} {w w' : World} {ty : TypeId} {o : Oper} (p x : Operand) (ho : o.op = .store ty p x) {pv xv : Value} (hp : ρ p = pv) (hx : ρ x = xv) (hrun : (Instr.storeAt ty pv xv).run P w = .ok () w') : (execOp ρ o).run P w = .ok .skip w' := by
  unfold execOp
  simp only [ho, hp, hx, Sem.run_bind, Sem.run_pure, Result.andThen_ok, hrun]
theorem exec_load {ρ : Operand → Value} {w : World} {ty : TypeId} {o : Oper} (p : Operand) (ho : o.op = .load ty p) {pv v : Value} (hp : ρ p = pv) (hrun : (Instr.loadAt ty pv).run P w = .ok v w) : (execOp ρ o).run P w = .ok (.value v) w := by
  unfold execOp
  simp only [ho, hp, Sem.run_bind, Sem.run_pure, Result.andThen_ok, hrun]
end
end Go.Proofs.YteiaiilfekojfaaGreat.DrawInv
