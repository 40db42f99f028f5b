/- Package ballot, walked: its order, Check, Below, Turn, and the document's. Conditions: the arguments are of their types. -/
import Derived.Test.YteiaiilfekojfaaGreatProg
import Derived.WalkKit
import Derived.Outline
import Derived.Lib.Hide
import Derived.LoopN
import Derived.Deep.RegionWith
import Derived.Deep.RegionHeld3
import Derived.Test.YteiaiilfekojfaaGreatQNetKeepsBase
namespace Go.Proofs.YteiaiilfekojfaaGreat.Bal
open Go.RowKit

/-- A ballot. -/
structure B where
  n : Nat
  r : Nat
  deriving DecidableEq
def bC (b : B) : Array Value := #[.int .u64 (b.n : Int), .int .u8 (b.r : Int)]
def bV (b : B) : Value := .agg (bC b)
/-- Some blocks are new, and nothing else. -/
def Al1 (w w' : World) : Prop := ∃ o1, w.alloc o1 = w'
def Al2 (w w' : World) : Prop := ∃ o1 o2, (w.alloc o1).alloc o2 = w'
def Al5 (w w' : World) : Prop := ∃ o1 o2 o3 o4 o5, (((((w.alloc o1).alloc o2).alloc o3).alloc o4).alloc o5).drew = w'
theorem below_1 (w : World) (o : Obj) : Below w.heap.size w (w.alloc o) := (Below.refl _ w).alloc (Nat.le_refl _) o
theorem below_2 (w : World) (o p : Obj) : Below w.heap.size w ((w.alloc o).alloc p) := ((Below.refl _ w).alloc (Nat.le_refl _) o).alloc (by simp) p
theorem Al1.below {w w' : World} (h : Al1 w w') : Below w.heap.size w w' := by obtain ⟨a, rfl⟩ := h; exact below_1 w a
theorem Al2.below {w w' : World} (h : Al2 w w') : Below w.heap.size w w' := by obtain ⟨a, b, rfl⟩ := h; exact below_2 w a b
theorem Al5.below {w w' : World} (h : Al5 w w') : Below w.heap.size w w' := by
  obtain ⟨a, b, c, d, e, rfl⟩ := h
  exact (((below_2 w a b).alloc (by simp <;> omega) c).alloc (by simp <;> omega) d).alloc (by simp <;> omega) e |>.drew
end Go.Proofs.YteiaiilfekojfaaGreat.Bal
