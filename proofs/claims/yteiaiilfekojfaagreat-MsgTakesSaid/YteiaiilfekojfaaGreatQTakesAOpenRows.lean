/- Arguments of struct types and slices of them, opened by the type's shape, whatever its depth. Conditions: the arguments can be read. -/
import Derived.Deep.Slices
import Derived.Deep.Fields
import Derived.ChangeSame
import Derived.Lib.SmallJoins
import Derived.WalkKit
import Derived.ChangeSlices
import Derived.OpenShut
import Derived.Test.YteiaiilfekojfaaGreatQTakesABase
namespace Go.Proofs.YteiaiilfekojfaaGreat
open Go.Joins Go.RowKit Go.WideShapes Go.ChangeShapes Go.Deep

section
variable {H : Type} {enc : TypeId × Value → H} {P : Program} {w : World} {base : Nat} {spare : Nat → Bool} {held : Bool}
end

/-- A list of things lies in memory, 'sz' cells each. -/
def Rows {α : Type} (w : World) (A : Option Addr) (sz : Nat) (cells : α → List Value) (l : List α) : Prop :=
  ∀ (k : Nat) (x : α), l[k]? = some x → ∃ ad, A = some ad ∧ ad.block < w.heap.size ∧ ∀ (j : Nat) (v : Value), (cells x)[j]? = some v → w.cell? (ad.add (k * sz + j)) = some v
section
variable {α : Type} {w w' : World} {A : Option Addr} {sz : Nat} {cells : α → List Value} {l : List α}
theorem Rows.below (h : Rows w A sz cells l) (hb : Below w.heap.size w w') : Rows w' A sz cells l := by
  intro k x hk
  obtain ⟨ad, e, hl, h0⟩ := h k x hk
  exact ⟨ad, e, Nat.lt_of_lt_of_le hl hb.size, fun j v hj => (hb.cell (by rw [block_of_add]; exact hl)).trans (h0 j v hj)⟩
theorem Rows.nil (w : World) (A : Option Addr) (sz : Nat) (cells : α → List Value) : Rows w A sz cells [] := by intro k b hb; simp at hb
theorem add_off (ad : Addr) (n j : Nat) : ({ block := (ad.add n).block, off := (ad.add n).off + (j + 1) } : Addr) = ad.add (n + (j + 1)) := by
  unfold Addr.add
  by_cases h : n = 0 <;> simp [h, Nat.add_assoc]
/-- The cells of one of them, at the addresses as a walk reckons them. -/
theorem Rows.at_ (h : Rows w A sz cells l) {k : Nat} {x : α} (hk : l[k]? = some x) : ∃ ad, A = some ad ∧ ad.block < w.heap.size ∧
    (∀ v, (cells x)[0]? = some v → w.cell? (ad.add (k * sz)) = some v) ∧
    (∀ (j : Nat) (v : Value), (cells x)[j + 1]? = some v → w.cell? { block := (ad.add (k * sz)).block, off := (ad.add (k * sz)).off + (j + 1) } = some v) := by
  obtain ⟨ad, e, hl, h0⟩ := h k x hk
  refine ⟨ad, e, hl, fun v hv => h0 0 v hv, fun j v hv => ?_⟩
  rw [add_off]
  exact h0 (j + 1) v hv
end
end Go.Proofs.YteiaiilfekojfaaGreat
