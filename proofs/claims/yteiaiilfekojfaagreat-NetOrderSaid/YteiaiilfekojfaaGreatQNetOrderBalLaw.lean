/- The walk of BallotCalls: ballots, their order and turns are what the document says. Conditions: the arguments are of their types; the list can be read. -/
import Derived.Deep.RegionHeldLaw
import Derived.Test.YteiaiilfekojfaaGreatQNetOrderBalWakes
import Derived.Deep.RegionHeld3
import Derived.Deep.QuietTactic
import Derived.BigQuiet
import Derived.Test.YteiaiilfekojfaaGreatQNetOrderBalTop
import Derived.Test.YteiaiilfekojfaaGreatQNetOrderBalOpen
namespace Go.Proofs.YteiaiilfekojfaaGreat.Bal
open Go.RowKit

/-- What stays of blocks of ballots. -/
structure Kb (L : List (Nat × Array Value)) (w W : World) : Prop where
  bw : Below w.heap.size w W
  at_ : ∀ p ∈ L, Blk W p.1 24 p.2
theorem Kb.below {L : List (Nat × Array Value)} {w W W' : World} (k : Kb L w W) (hb : Below W.heap.size W W') : Kb L w W' where
  bw := k.bw.trans (hb.mono k.bw.size)
  at_ := fun p hp => (k.at_ p hp).below hb (k.at_ p hp).lt
theorem Kb.alloc {L : List (Nat × Array Value)} {w W : World} (k : Kb L w W) (o : Obj) : Kb L w (W.alloc o) := k.below (below_1 W o)
theorem Kb.drew {L : List (Nat × Array Value)} {w W : World} (k : Kb L w W) : Kb L w W.drew := ⟨k.bw.drew, fun p hp => (k.at_ p hp).drew⟩
theorem Kb.new {L : List (Nat × Array Value)} {w W : World} (k : Kb L w W) (cs : Array Value) : Kb ((W.heap.size, cs) :: L) w (W.alloc (.cells cs 24)) where
  bw := (k.alloc _).bw
  at_ := by
    intro p hp
    rcases List.mem_cons.1 hp with rfl | hp
    · exact Blk.new W _ cs
    · exact (k.at_ p hp).alloc _
theorem Kb.refl (w : World) : Kb [] w w := ⟨Below.refl _ w, by simp⟩
theorem Kb.i1 {a : Nat × Array Value} {L : List (Nat × Array Value)} {w W : World} (k : Kb (a :: L) w W) : Blk W a.1 24 a.2 := k.at_ a (by simp)
theorem Kb.i3 {a b c : Nat × Array Value} {L : List (Nat × Array Value)} {w W : World} (k : Kb (c :: b :: a :: L) w W) : Blk W a.1 24 a.2 := k.at_ a (by simp)
end Go.Proofs.YteiaiilfekojfaaGreat.Bal
