/- A drawn region, walked by an invariant (guards too, where what they hang on is known): what each slot holds once its operation has come up, whatever the order. No order is enumerated. Conditions: each operation waits for those whose slots it looks at; what a slot holds stays true behind the others. -/
import Derived.OrdersHeld
import Derived.Deep.RegionHeld
import Derived.Test.YteiaiilfekojfaaGreatQNetOrderBase
namespace Go.Proofs.YteiaiilfekojfaaGreat.DrawInv
open Go.RowKit

def temps (o : Oper) : List Tmp := o.op.operands.toList.filterMap fun | .tmp t => some t | _ => none
def nobody (ops : Array Oper) (t : Tmp) : Bool := (List.range ops.size).all fun j => match ops[j]? with | some o' => o'.dst != some t | none => true
/-- Edges go back; what a guard hangs on is waited for; slots are filled by one operation each; what is looked at was filled by what is waited for, or by nobody. -/
def fits (md : Region.Mode) (ops : Array Oper) : Bool :=
  (List.range ops.size).all fun i => match ops[i]? with
    | none => true
    | some o => (match o.guard with | none => true | some (j, _) => (match ops[j]? with | some oj => oj.dst.isSome | none => false) && o.after.toList.any fun e => Region.binds md e && e.on == j) && o.after.toList.all (fun e => !Region.binds md e || decide (e.on < i)) &&
      (match o.dst with | none => false | some d => (List.range ops.size).all fun j => j == i || (match ops[j]? with | some o' => o'.dst != some d | none => true)) &&
      (temps o).all fun t => (o.after.toList.any fun e => Region.binds md e && (match ops[e.on]? with | some o' => o'.dst == some t | none => false)) || nobody ops t

section
variable {P : Program} {md : Region.Mode} {ops : Array Oper} {Q : Exit → Act → World → Prop} {V : Nat → Value → World → Prop} {w0 : World} {n : Nat}

/-- Operands that are no slots mean themselves. -/
def Consts (ρ : Operand → Value) : Prop := (∀ v, ρ (.const v) = v) ∧ (∀ f, ρ (.func f) = .func (.func f) #[] #[])
/-- What is left behind an operation: its value, or a call that comes back with it. -/
def Res (P : Program) (V : Value → World → Prop) (w : World) (r : Result Next) : Prop :=
  (∃ v w', r = .ok (.value v) w' ∧ V v w' ∧ Below w.heap.size w w') ∨
  (∃ f args, r = .ok (.enter f args) w ∧ Calls P f args w fun e w' => ∃ v, e = .returned v ∧ V v w' ∧ Below w.heap.size w w')
/-- The operation is carried out; it is not. -/
def On (ops : Array Oper) (ρ : Operand → Value) : Option (Nat × Bool) → Prop
  | none => True
  | some (j, b) => ∃ oj dj, ops[j]? = some oj ∧ oj.dst = some dj ∧ ρ (.tmp dj) = .bool b
def Off (ops : Array Oper) (ρ : Operand → Value) : Option (Nat × Bool) → Prop
  | none => False
  | some (j, b) => ∃ oj dj x, ops[j]? = some oj ∧ oj.dst = some dj ∧ ρ (.tmp dj) = x ∧ x ≠ .bool b
def StepOk (P : Program) (ops : Array Oper) (V : Nat → Value → World → Prop) (w0 : World) (o : Oper) : Prop :=
  ∀ d, o.dst = some d → ∀ ρ w, Consts ρ → Below w0.heap.size w0 w → (∀ t ∈ temps o, V t (ρ (.tmp t)) w) → (∀ j b oj dj, o.guard = some (j, b) → ops[j]? = some oj → oj.dst = some dj → V dj (ρ (.tmp dj)) w) →
    (On ops ρ o.guard ∧ Res P (V d) w ((execOp ρ o).run P w)) ∨ (Off ops ρ o.guard ∧ V d undef w)
theorem yields_of {a : Act} {j dj : Nat} {oj : Oper} {b : Bool} (h1 : ops[j]? = some oj) (h2 : oj.dst = some dj) (h3 : a.eval (.tmp dj) = .bool b) : yielded ops a.tmps j = some b := by
  have h4 : a.tmps[dj]? = some (.bool b) := by
    have h : a.tmps.getD dj undef = .bool b := h3
    rw [Array.getD_eq_getD_getElem?] at h
    cases hx : a.tmps[dj]? with
    | none => rw [hx] at h; cases h
    | some x => rw [hx] at h; rw [show x = .bool b from h]
  unfold yielded
  rw [h1]
  simp [h2, h4]
theorem On.wanted {a : Act} {o : Oper} (h : On ops a.eval o.guard) : Region.wanted o (yielded ops a.tmps) = true := by
  unfold Region.wanted
  cases hg : o.guard with
  | none => rfl
  | some p =>
    obtain ⟨j, b⟩ := p
    rw [hg] at h
    obtain ⟨oj, dj, h1, h2, h3⟩ := h
    simp [yields_of h1 h2 h3]
theorem Off.wanted {a : Act} {o : Oper} (h : Off ops a.eval o.guard) : Region.wanted o (yielded ops a.tmps) = false := by
  unfold Region.wanted
  cases hg : o.guard with
  | none => rw [hg] at h; exact h.elim
  | some p =>
    obtain ⟨j, b⟩ := p
    rw [hg] at h
    obtain ⟨oj, dj, x, h1, h2, h3, h4⟩ := h
    have hy : yielded ops a.tmps j ≠ some b := by
      intro hy
      unfold yielded at hy
      rw [h1] at hy
      simp only [Option.bind_some, h2] at hy
      cases hx : a.tmps[dj]? with
      | none => rw [hx] at hy; cases hy
      | some u =>
        rw [hx] at hy
        have hu : u = x := by
          have h : a.tmps.getD dj undef = x := h3
          rw [Array.getD_eq_getD_getElem?, hx] at h
          exact h
        subst hu
        cases u with
        | bool c => exact h4 (congrArg _ (Option.some.inj hy))
        | _ => cases hy
    simp [hy]

structure At (ops : Array Oper) (V : Nat → Value → World → Prop) (n : Nat) (w0 : World) (listed : Array Bool) (a : Act) (w : World) : Prop where
  sz : a.tmps.size = n
  df : a.defers = []
  ls : listed.size = ops.size
  bw : Below w0.heap.size w0 w
  base : ∀ k : Nat, (∀ (j : Nat) (o' : Oper), ops[j]? = some o' → o'.dst ≠ some k) → V k (a.eval (.tmp k)) w
  done : ∀ (i : Nat) (o : Oper) (d : Nat), ops[i]? = some o → o.dst = some d → listed.getD i false = true → V d (a.eval (.tmp d)) w

theorem eval_put_ne {a : Act} {d k : Tmp} {v : Value} (h : k ≠ d) : (a.put (some d) v).eval (.tmp k) = a.eval (.tmp k) := by
  show (a.tmps.setIfInBounds d v).getD k undef = a.tmps.getD k undef
  simp [Ne.symm h]
theorem eval_put_eq {a : Act} {d : Tmp} {v : Value} (h : d < a.tmps.size) : (a.put (some d) v).eval (.tmp d) = v := by
  show (a.tmps.setIfInBounds d v).getD d undef = v
  simp [h]
def Steps (P : Program) (ops : Array Oper) (V : Nat → Value → World → Prop) (w0 : World) : List Oper → Prop
  | [] => True
  | o :: l => StepOk P ops V w0 o ∧ Steps P ops V w0 l
theorem Steps.all {l : List Oper} (h : Steps P ops V w0 l) : ∀ o ∈ l, StepOk P ops V w0 o := by
  induction l with
  | nil => intro o ho; cases ho
  | cons x l ih =>
    intro o ho
    rcases List.mem_cons.1 ho with rfl | ho
    · exact h.1
    · exact ih h.2 o ho
end
end Go.Proofs.YteiaiilfekojfaaGreat.DrawInv
