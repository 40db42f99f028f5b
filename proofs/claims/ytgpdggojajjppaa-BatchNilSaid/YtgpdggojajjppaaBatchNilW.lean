/- The walk of BatchNil, its arguments opened. Conditions: the arguments can be read. -/
import Derived.Test.YtgpdggojajjppaaBatNilL
namespace Go.Proofs.Ytgpdggojajjppaa.BatchNilW
open Go.RowKit Bat

set_option maxRecDepth 100000 in
theorem walk {H : Type} {enc : TypeId × Value → H} (W : World) (base : Nat) (v0 : Value) (d0 : DataW H) (p0 : List MemPlace)
    (h0 : DataW.Trod enc Try.prog W 0 (fun _ => true) true 73 v0 d0 p0)
    (k0 : Value.okWide Try.prog W .any base 73 v0)
    (_l0 : ∀ x ∈ p0, x.block < W.heap.size) :
    Calls Try.prog 8 #[v0] W fun e w' => e = .returned (.bool true) ∧ Below W.heap.size W w' := by
  obtain ⟨a, rfl, _⟩ := Bat.open_ba h0
  exact bnil_any a W
end Go.Proofs.Ytgpdggojajjppaa.BatchNilW
