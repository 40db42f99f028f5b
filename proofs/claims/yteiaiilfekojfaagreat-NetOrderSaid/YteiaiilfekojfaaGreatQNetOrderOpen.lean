/- Arguments opened: slices of integers as lists. Conditions: an argument is one that can be read. -/
import Derived.ChangeSlices
import Derived.OpenShut
import Derived.Test.YteiaiilfekojfaaGreatQNetOrderBase
namespace Go.Proofs.YteiaiilfekojfaaGreat
open Go.RowKit Go.WideShapes Go.ChangeShapes
variable {H : Type} {enc : TypeId × Value → H} {P : Program} {w : World} {base : Nat}

theorem cell_lt {a : Addr} {v : Value} (h : w.cell? a = some v) : a.block < w.heap.size := by
  rcases Nat.lt_or_ge a.block w.heap.size with hl | hl
  · exact hl
  · unfold World.cell? at h
    rw [Array.getElem?_eq_none hl] at h
    cases h

end Go.Proofs.YteiaiilfekojfaaGreat
