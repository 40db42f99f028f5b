/- Package ballot, walked: Top, and the document's. Conditions: the arguments are of their types; a list is one that can be read. -/
import Derived.Test.YteiaiilfekojfaaBalTurn
namespace Go.Proofs.Yteiaiilfekojfaa.Bal
open Go.RowKit

def topN (l : List B) : B := l.foldl (fun t b => if ltB t b then b else t) ⟨0, 0⟩
theorem topN_snoc (l : List B) (b : B) : topN (l ++ [b]) = if ltB (topN l) b then b else topN l := by unfold topN; rw [List.foldl_append]; rfl
theorem take_snoc {α : Type} (l : List α) (k : Nat) (x : α) (h : l[k]? = some x) : l.take (k + 1) = l.take k ++ [x] := by
  rw [List.take_add_one, h]; rfl
/-- The cells of a list of ballots. -/
def balCells (l : List B) : List Value := l.flatMap fun b => [.int .u64 (b.n : Int), .int .u8 (b.r : Int)]
def Balls (w : World) (A : Option Addr) (l : List B) : Prop :=
  ∀ k b, l[k]? = some b → ∃ ad, A = some ad ∧ ad.block < w.heap.size ∧ w.cell? (ad.add (k * 2)) = some (.int .u64 (b.n : Int)) ∧ w.cell? (ad.add (k * 2 + 1)) = some (.int .u8 (b.r : Int))
theorem Balls.below {w w' : World} {A : Option Addr} {l : List B} (h : Balls w A l) (hb : Below w.heap.size w w') : Balls w' A l := by
  intro k b hk
  obtain ⟨ad, e, hl, h0, h1⟩ := h k b hk
  exact ⟨ad, e, Nat.lt_of_lt_of_le hl hb.size, (hb.cell (by rw [block_of_add]; exact hl)).trans h0, (hb.cell (by rw [block_of_add]; exact hl)).trans h1⟩
theorem add_next (ad : Addr) (n : Nat) : ({ block := (ad.add n).block, off := (ad.add n).off + 1 } : Addr) = ad.add (n + 1) := by
  unfold Addr.add
  by_cases h : n = 0 <;> simp [h, Nat.add_assoc]
/-- What holds at the head of a round of Top's loop. -/
def TopAt (l : List B) (w : World) (i : Value) (wr : World) : Prop :=
  ∃ k : Nat, k ≤ l.length ∧ i = .int .i64 (k : Int) ∧ Blk wr (w.heap.size + 1) 39 (bC (topN (l.take k))) ∧ Blk wr w.heap.size 39 (bC ⟨0, 0⟩) ∧ Below w.heap.size w wr

end Go.Proofs.Yteiaiilfekojfaa.Bal
