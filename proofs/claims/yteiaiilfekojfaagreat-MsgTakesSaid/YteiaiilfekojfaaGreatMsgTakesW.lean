/- The walk of MsgTakes, its arguments opened. Conditions: the arguments can be read. -/
import Derived.Test.YteiaiilfekojfaaGreatPkTakesA4
import Derived.Test.YteiaiilfekojfaaGreatQTakesAWireOpen
namespace Go.Proofs.YteiaiilfekojfaaGreat.MsgTakesW
open Go.RowKit Msg Wire

set_option maxRecDepth 100000 in
theorem walk {H : Type} {enc : TypeId × Value → H} (W : World) (base : Nat) (v0 : Value) (d0 : DataW H) (p0 : List MemPlace)
    (h0 : DataW.Trod enc Tryz.prog W 0 (fun _ => true) true 9 v0 d0 p0)
    (k0 : Value.okWide Tryz.prog W .any base 9 v0)
    (_l0 : ∀ x ∈ p0, x.block < W.heap.size) :
    Calls Tryz.prog 4 #[v0] W fun e w' => e = .returned (.bool true) ∧ Below W.heap.size W w' := by
  obtain ⟨s, rfl, _⟩ := open_text (by kernel_rfl) h0 k0
  exact takes_any s W
end Go.Proofs.YteiaiilfekojfaaGreat.MsgTakesW
