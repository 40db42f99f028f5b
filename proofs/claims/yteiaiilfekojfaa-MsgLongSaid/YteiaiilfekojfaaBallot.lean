/- Package ballot, walked: its order, Check, Below, Turn, and the document's. Conditions: the arguments are of their types. -/
import Derived.Test.YteiaiilfekojfaaBase
import Derived.Test.YteiaiilfekojfaaProg
import Derived.WalkKit
import Derived.Outline
import Derived.Lib.Hide
import Derived.LoopN
import Derived.Deep.RegionWith
import Derived.Deep.RegionHeld3
namespace Go.Proofs.Yteiaiilfekojfaa.Bal
open Go.RowKit

/-- A ballot. -/
structure B where
  n : Nat
  r : Nat
  deriving DecidableEq
def bC (b : B) : Array Value := #[.int .u64 (b.n : Int), .int .u8 (b.r : Int)]
def bV (b : B) : Value := .agg (bC b)
def cmpN (a b : Nat) : Int := if a < b then -1 else if b < a then 1 else 0
def ordN (a b : B) : Int := if cmpN a.n b.n ≠ 0 then cmpN a.n b.n else cmpN a.r b.r

def ltB (a b : B) : Bool := decide (a.n < b.n) || (decide (a.n = b.n) && decide (a.r < b.r))
theorem ordN_lt (a b : B) : ltB a b = decide (ordN a b < 0) := by
  unfold ltB ordN cmpN
  rcases Nat.lt_trichotomy a.n b.n with h | h | h
  · simp [h]
  · rcases Nat.lt_trichotomy a.r b.r with k | k | k
    · simp [h, k]
    · simp [h, k]
    · have k2 : ¬ a.r < b.r := by omega
      simp [h, k, k2]
  · have h2 : ¬ a.n < b.n := by omega
    have h3 : a.n ≠ b.n := by omega
    simp [h, h2, h3]
/-- Some blocks are new, and nothing else. -/
def Al1 (w w' : World) : Prop := ∃ o1, w.alloc o1 = w'
def Al2 (w w' : World) : Prop := ∃ o1 o2, (w.alloc o1).alloc o2 = w'
def Al3 (w w' : World) : Prop := ∃ o1 o2 o3, (((w.alloc o1).alloc o2).alloc o3).drew = w'
def Al5 (w w' : World) : Prop := ∃ o1 o2 o3 o4 o5, (((((w.alloc o1).alloc o2).alloc o3).alloc o4).alloc o5).drew = w'
theorem below_1 (w : World) (o : Obj) : Below w.heap.size w (w.alloc o) := (Below.refl _ w).alloc (Nat.le_refl _) o
theorem below_2 (w : World) (o p : Obj) : Below w.heap.size w ((w.alloc o).alloc p) := ((Below.refl _ w).alloc (Nat.le_refl _) o).alloc (by simp) p
theorem below_3 (w : World) (o p q : Obj) : Below w.heap.size w (((w.alloc o).alloc p).alloc q).drew := ((below_2 w o p).alloc (by simp <;> omega) q).drew
theorem Al1.below {w w' : World} (h : Al1 w w') : Below w.heap.size w w' := by obtain ⟨a, rfl⟩ := h; exact below_1 w a
theorem Al2.below {w w' : World} (h : Al2 w w') : Below w.heap.size w w' := by obtain ⟨a, b, rfl⟩ := h; exact below_2 w a b
theorem Al5.below {w w' : World} (h : Al5 w w') : Below w.heap.size w w' := by
  obtain ⟨a, b, c, d, e, rfl⟩ := h
  exact (((below_2 w a b).alloc (by simp <;> omega) c).alloc (by simp <;> omega) d).alloc (by simp <;> omega) e |>.drew
theorem cells_3 (w : World) (o p : Obj) (x y : Value) (t : TypeId) : ((((w.alloc o).alloc p).alloc (.cells #[x, y] t)).drew).cell? ⟨w.heap.size + 1 + 1, 0, none⟩ = some x ∧ ((((w.alloc o).alloc p).alloc (.cells #[x, y] t)).drew).cell? ⟨w.heap.size + 1 + 1, 1, none⟩ = some y := by
  have h := Blk.new ((w.alloc o).alloc p) t #[x, y]
  have e : ((w.alloc o).alloc p).heap.size = w.heap.size + 1 + 1 := by simp
  rw [e] at h
  exact ⟨h.cell 0, h.cell 1⟩

end Go.Proofs.Yteiaiilfekojfaa.Bal
