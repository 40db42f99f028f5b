/- The walk of ClientNil, its arguments opened. Conditions: the arguments can be read. -/
import Derived.Test.YtgpdggojajjppaaCliNilL
namespace Go.Proofs.Ytgpdggojajjppaa.ClientNilW
open Go.RowKit Cli

set_option maxRecDepth 100000 in
theorem walk {H : Type} {enc : TypeId × Value → H} (W : World) (base : Nat) (v0 : Value) (d0 : DataW H) (p0 : List MemPlace)
    (h0 : DataW.Trod enc Try.prog W 0 (fun _ => true) true 49 v0 d0 p0)
    (k0 : Value.okWide Try.prog W .any base 49 v0)
    (_l0 : ∀ x ∈ p0, x.block < W.heap.size) :
    Calls Try.prog 4 #[v0] W fun e w' => e = .returned (.bool true) ∧ Below W.heap.size W w' := by
  obtain ⟨d, c, l, rfl, _, _, _⟩ := Cli.open_act h0
  exact cnil_any d c l W
end Go.Proofs.Ytgpdggojajjppaa.ClientNilW
