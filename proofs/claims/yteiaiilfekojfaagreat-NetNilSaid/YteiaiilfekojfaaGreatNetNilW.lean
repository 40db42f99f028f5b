/- The walk of NetNil, its arguments opened. Conditions: the arguments can be read. -/
import Derived.Test.YteiaiilfekojfaaGreatPkNetNil4
namespace Go.Proofs.YteiaiilfekojfaaGreat.NetNilW
open Go.RowKit Net

set_option maxRecDepth 100000 in
theorem walk {H : Type} {enc : TypeId × Value → H} (W : World) (base : Nat) (v0 : Value) (d0 : DataW H) (p0 : List MemPlace)
    (h0 : DataW.Trod enc Tryz.prog W 0 (fun _ => true) true 55 v0 d0 p0)
    (k0 : Value.okWide Tryz.prog W .any base 55 v0)
    (_l0 : ∀ x ∈ p0, x.block < W.heap.size) :
    Calls Tryz.prog 8 #[v0] W fun e w' => e = .returned (.bool true) ∧ Below W.heap.size W w' := by
  obtain ⟨x, rfl, hx⟩ := open_na h0
  exact nillaw_any x W
end Go.Proofs.YteiaiilfekojfaaGreat.NetNilW
