/- The document's reader of bytes, plain laws: Below, Str, Bad; they are the program's. Conditions: none. -/
import Derived.Test.YteiaiilfekojfaaGreatQNetOrderWireDocNum
namespace Go.Proofs.YteiaiilfekojfaaGreat.Wire
open Go.RowKit

def Dr.below (r : Dr) (n : Nat) : Nat × Dr := if r.num.2.e = 0 ∧ n ≤ r.num.1 then (0, ⟨[], 4⟩) else r.num
def Dr.str (r : Dr) (most : Int) : List UInt8 × Dr :=
  if r.num.2.e ≠ 0 then ([], r.num.2)
  else if (max most 0).toNat < r.num.1 then ([], ⟨[], 4⟩)
  else if r.num.2.s.length < r.num.1 then ([], ⟨[], 3⟩)
  else (r.num.2.s.take r.num.1, ⟨r.num.2.s.drop r.num.1, 0⟩)
def Dr.bad (r : Dr) : Dr := if r.e = 0 then ⟨[], 4⟩ else r

end Go.Proofs.YteiaiilfekojfaaGreat.Wire
