/- The document's reader of bytes, walked: none, Byte, End. Conditions: the arguments are of their types. -/
import Derived.Deep.RegionHeld3
import Derived.Test.YteiaiilfekojfaaGreatQNetOrderWireLaw
import Derived.Test.YteiaiilfekojfaaGreatQNetOrderWireRef
import Derived.Test.YteiaiilfekojfaaGreatQNetOrderKeep
namespace Go.Proofs.YteiaiilfekojfaaGreat.Wire
open Go.RowKit

/-- The document's reader: what is left, and the error. -/
structure Dr where
  s : List UInt8
  e : Nat
def drC (r : Dr) : Array Value := #[.string ⟨r.s.toArray⟩, .int .i64 (r.e : Int)]
def Dr.byte (r : Dr) : Nat × Dr :=
  if r.e ≠ 0 then (0, r) else match r.s with
  | [] => (0, ⟨[], 3⟩)
  | b :: l => (b.toNat, ⟨l, 0⟩)
def Dr.end_ (r : Dr) : Dr := if r.e = 0 ∧ 0 < r.s.length then ⟨[], 4⟩ else r
end Go.Proofs.YteiaiilfekojfaaGreat.Wire
