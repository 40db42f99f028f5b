/- The walk of BallotCalls: ballots, their order and turns are what the document says. Conditions: the arguments are of their types; the list can be read. -/
import Derived.Deep.RegionHeldLaw
import Derived.Test.YteiaiilfekojfaaBalWakes
import Derived.Deep.RegionHeld3
import Derived.Deep.QuietTactic
import Derived.BigQuiet
import Derived.Test.YteiaiilfekojfaaBalTop
import Derived.Test.YteiaiilfekojfaaBalOpen
namespace Go.Proofs.Yteiaiilfekojfaa.Bal
open Go.RowKit

/-- What stays of blocks of ballots. -/
structure Kb (L : List (Nat × Array Value)) (w W : World) : Prop where
  bw : Below w.heap.size w W
  at_ : ∀ p ∈ L, Blk W p.1 39 p.2
theorem Kb.below {L : List (Nat × Array Value)} {w W W' : World} (k : Kb L w W) (hb : Below W.heap.size W W') : Kb L w W' where
  bw := k.bw.trans (hb.mono k.bw.size)
  at_ := fun p hp => (k.at_ p hp).below hb (k.at_ p hp).lt
theorem Kb.alloc {L : List (Nat × Array Value)} {w W : World} (k : Kb L w W) (o : Obj) : Kb L w (W.alloc o) := k.below (below_1 W o)
theorem Kb.drew {L : List (Nat × Array Value)} {w W : World} (k : Kb L w W) : Kb L w W.drew := ⟨k.bw.drew, fun p hp => (k.at_ p hp).drew⟩
theorem Kb.new {L : List (Nat × Array Value)} {w W : World} (k : Kb L w W) (cs : Array Value) : Kb ((W.heap.size, cs) :: L) w (W.alloc (.cells cs 39)) where
  bw := (k.alloc _).bw
  at_ := by
    intro p hp
    rcases List.mem_cons.1 hp with rfl | hp
    · exact Blk.new W _ cs
    · exact (k.at_ p hp).alloc _
theorem Kb.refl (w : World) : Kb [] w w := ⟨Below.refl _ w, by simp⟩
theorem Kb.i1 {a : Nat × Array Value} {L : List (Nat × Array Value)} {w W : World} (k : Kb (a :: L) w W) : Blk W a.1 39 a.2 := k.at_ a (by simp)
theorem Kb.i2 {a b : Nat × Array Value} {L : List (Nat × Array Value)} {w W : World} (k : Kb (b :: a :: L) w W) : Blk W a.1 39 a.2 := k.at_ a (by simp)
theorem Kb.i3 {a b c : Nat × Array Value} {L : List (Nat × Array Value)} {w W : World} (k : Kb (c :: b :: a :: L) w W) : Blk W a.1 39 a.2 := k.at_ a (by simp)
theorem Kb.i4 {a b c d : Nat × Array Value} {L : List (Nat × Array Value)} {w W : World} (k : Kb (d :: c :: b :: a :: L) w W) : Blk W a.1 39 a.2 := k.at_ a (by simp)
def At4 (g1 g2 g3 g4 : Nat) (c1 c2 c3 c4 : Array Value) (W : World) : Prop :=
  W.cell? ⟨g1, 0, none⟩ = c1[0]? ∧ W.cell? ⟨g1, 1, none⟩ = c1[1]? ∧ W.cell? ⟨g2, 0, none⟩ = c2[0]? ∧ W.cell? ⟨g2, 1, none⟩ = c2[1]? ∧
    W.cell? ⟨g3, 0, none⟩ = c3[0]? ∧ W.cell? ⟨g3, 1, none⟩ = c3[1]? ∧ W.cell? ⟨g4, 0, none⟩ = c4[0]? ∧ W.cell? ⟨g4, 1, none⟩ = c4[1]?
theorem Kb.at4 {g1 g2 g3 g4 : Nat} {c1 c2 c3 c4 : Array Value} {w W : World} (k : Kb [(g4, c4), (g3, c3), (g2, c2), (g1, c1)] w W) : At4 g1 g2 g3 g4 c1 c2 c3 c4 W :=
  ⟨(k.at_ (g1, c1) (by simp)).cell 0, (k.at_ (g1, c1) (by simp)).cell 1, (k.at_ (g2, c2) (by simp)).cell 0, (k.at_ (g2, c2) (by simp)).cell 1, (k.at_ (g3, c3) (by simp)).cell 0, (k.at_ (g3, c3) (by simp)).cell 1, (k.at_ (g4, c4) (by simp)).cell 0, (k.at_ (g4, c4) (by simp)).cell 1⟩

end Go.Proofs.Yteiaiilfekojfaa.Bal
