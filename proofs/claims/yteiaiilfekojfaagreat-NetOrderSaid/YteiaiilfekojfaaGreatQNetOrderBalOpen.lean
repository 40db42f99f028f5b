/- Ballots as arguments, opened: one by value, and a slice of them. Conditions: the arguments can be read. -/
import Derived.Deep.Slices
import Derived.Deep.Fields
import Derived.ChangeSame
import Derived.Lib.SmallJoins
import Derived.WalkKit
import Derived.Test.YteiaiilfekojfaaGreatQNetOrderBalTop
import Derived.Test.YteiaiilfekojfaaGreatQNetOrderOpen
namespace Go.Proofs.YteiaiilfekojfaaGreat
open Go.Joins Go.RowKit Go.WideShapes Go.ChangeShapes Go.Deep
section
variable {H : Type} {enc : TypeId × Value → H} {P : Program} {w : World} {base : Nat} {spare : Nat → Bool} {held : Bool}
end
namespace Bal
variable {H : Type} {enc : TypeId × Value → H} {w : World} {base : Nat}
def Fits (b : B) : Prop := b.n < 18446744073709551616 ∧ b.r < 256
end Bal
end Go.Proofs.YteiaiilfekojfaaGreat
