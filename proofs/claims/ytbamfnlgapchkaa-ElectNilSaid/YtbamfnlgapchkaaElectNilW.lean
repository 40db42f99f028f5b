/- The walk of ElectNil, its arguments opened. Conditions: the arguments can be read. -/
import Derived.Test.YtbamfnlgapchkaaElNilL
import Derived.Test.YtbamfnlgapchkaaElOpen
namespace Go.Proofs.Ytbamfnlgapchkaa.ElectNilW
open Go.RowKit Ele

set_option maxRecDepth 100000 in
theorem walk {H : Type} {enc : TypeId × Value → H} (W : World) (base : Nat) (v0 : Value) (d0 : DataW H) (p0 : List MemPlace) (v1 : Value) (d1 : DataW H) (p1 : List MemPlace)
    (h0 : DataW.Trod enc Try.prog W 0 (fun _ => true) true 95 v0 d0 p0) (h1 : DataW.Trod enc Try.prog W 0 (fun _ => true) true 26 v1 d1 p1)
    (k0 : Value.okWide Try.prog W .any base 95 v0) (k1 : Value.okWide Try.prog W .any base 26 v1)
    (_l0 : ∀ x ∈ p0, x.block < W.heap.size) (_l1 : ∀ x ∈ p1, x.block < W.heap.size) :
    Calls Try.prog 14 #[v0, v1] W fun e w' => e = .returned (.bool true) ∧ Below W.heap.size W w' := by
  obtain ⟨x, rfl, _⟩ := open_td h0
  obtain ⟨a1, rfl, _, _, w1⟩ := ChangeShapes.open_int Try.underlying26 k1 h1
  obtain ⟨y, rfl⟩ := Int.eq_ofNat_of_zero_le (bounds_u64 w1).1
  exact enil_any x.node x.base y x.A x.V.length x.c W
end Go.Proofs.Ytbamfnlgapchkaa.ElectNilW
