/- The closed run of chapter 07's laws, walked: it is true. Conditions: none. -/
import Derived.Deep.RegionHeldLaw
import Derived.Test.YteiaiilfekojfaaGreatQNetOrderBalPut
import Derived.Test.YteiaiilfekojfaaGreatQNetOrderWireWakes
namespace Go.Proofs.YteiaiilfekojfaaGreat.Bal
open Go.RowKit Wire

theorem put_lit (w : World) : Calls Tryz.prog 132 #[.slice none 0 0, .agg #[.int .u64 5, .int .u8 3]] w fun e w' => RetS w w' e [5, 3] :=
  put_any none 0 [] ⟨5, 3⟩ (by decide) (by decide) (by decide) w Reads.none_

/-- What stays of the three turns. -/
def Sx (g1 g3 g5 : Nat) (W : World) : Prop :=
  W.cell? ⟨g1, 0, none⟩ = some (.int .u64 1) ∧ W.cell? ⟨g1, 1, none⟩ = some (.int .u8 2) ∧ W.cell? ⟨g3, 0, none⟩ = some (.int .u64 3) ∧ W.cell? ⟨g3, 1, none⟩ = some (.int .u8 2) ∧
    W.cell? ⟨g5, 0, none⟩ = some (.int .u64 4) ∧ W.cell? ⟨g5, 1, none⟩ = some (.int .u8 1)
structure Kx (g1 g3 g5 : Nat) (w W : World) : Prop where
  bw : Below w.heap.size w W
  l1 : g1 < W.heap.size
  l3 : g3 < W.heap.size
  l5 : g5 < W.heap.size
  s : Sx g1 g3 g5 W
theorem Kx.below {g1 g3 g5 : Nat} {w W W' : World} (k : Kx g1 g3 g5 w W) (hb : Below W.heap.size W W') : Kx g1 g3 g5 w W' where
  bw := k.bw.trans (hb.mono k.bw.size)
  l1 := Nat.lt_of_lt_of_le k.l1 hb.size
  l3 := Nat.lt_of_lt_of_le k.l3 hb.size
  l5 := Nat.lt_of_lt_of_le k.l5 hb.size
  s := ⟨(hb.cell k.l1).trans k.s.1, (hb.cell k.l1).trans k.s.2.1, (hb.cell k.l3).trans k.s.2.2.1, (hb.cell k.l3).trans k.s.2.2.2.1, (hb.cell k.l5).trans k.s.2.2.2.2.1, (hb.cell k.l5).trans k.s.2.2.2.2.2⟩
theorem Kx.alloc {g1 g3 g5 : Nat} {w W : World} (k : Kx g1 g3 g5 w W) (o : Obj) : Kx g1 g3 g5 w (W.alloc o) := k.below (below_1 W o)

end Go.Proofs.YteiaiilfekojfaaGreat.Bal
