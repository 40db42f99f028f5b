/- Package ballot, walked: Top, and the document's. Conditions: the arguments are of their types; a list is one that can be read. -/
import Derived.Test.YteiaiilfekojfaaGreatQNetOrderBalTurn
namespace Go.Proofs.YteiaiilfekojfaaGreat.Bal
open Go.RowKit

theorem take_snoc {α : Type} (l : List α) (k : Nat) (x : α) (h : l[k]? = some x) : l.take (k + 1) = l.take k ++ [x] := by
  rw [List.take_add_one, h]; rfl
def Balls (w : World) (A : Option Addr) (l : List B) : Prop :=
  ∀ k b, l[k]? = some b → ∃ ad, A = some ad ∧ ad.block < w.heap.size ∧ w.cell? (ad.add (k * 2)) = some (.int .u64 (b.n : Int)) ∧ w.cell? (ad.add (k * 2 + 1)) = some (.int .u8 (b.r : Int))
theorem Balls.below {w w' : World} {A : Option Addr} {l : List B} (h : Balls w A l) (hb : Below w.heap.size w w') : Balls w' A l := by
  intro k b hk
  obtain ⟨ad, e, hl, h0, h1⟩ := h k b hk
  exact ⟨ad, e, Nat.lt_of_lt_of_le hl hb.size, (hb.cell (by rw [block_of_add]; exact hl)).trans h0, (hb.cell (by rw [block_of_add]; exact hl)).trans h1⟩
end Go.Proofs.YteiaiilfekojfaaGreat.Bal
