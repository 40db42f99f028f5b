/- The document's reader of bytes, walked: Num; it is the program's. Conditions: the arguments are of their types. -/
import Derived.Deep.LoopGhost
import Derived.Deep.RegionHeld3
import Derived.IntWalk
import Derived.Deep.DeepCutAuto
import Derived.Test.YteiaiilfekojfaaGreatQNetOrderWireDoc
namespace Go.Proofs.YteiaiilfekojfaaGreat.Wire
open Go.RowKit

/-- How many bytes follow a first byte. -/
def kOf (b : UInt8) : Nat := if 248 ≤ b.toNat then b.toNat - 247 else 0
def vOf (b : UInt8) (l : List UInt8) : Nat := if 248 ≤ b.toNat then valB (l.take (kOf b)) else b.toNat
def Dr.num (r : Dr) : Nat × Dr :=
  if r.e ≠ 0 then (0, r) else match r.s with
  | [] => (0, ⟨[], 3⟩)
  | b :: l => if l.length < kOf b then (0, ⟨[], 3⟩) else if numB (vOf b l) = (b :: l).take (1 + kOf b) then (vOf b l, ⟨(b :: l).drop (1 + kOf b), 0⟩) else (0, ⟨[], 4⟩)
/-! ### The walk -/
end Go.Proofs.YteiaiilfekojfaaGreat.Wire
