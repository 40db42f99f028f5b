/- The walk of ThriftNil, its arguments opened. Conditions: the arguments can be read. -/
import Derived.Test.YtbamfnlgapchkaaThWk
import Derived.Test.YtbamfnlgapchkaaOpen
namespace Go.Proofs.Ytbamfnlgapchkaa.ThriftNilW
open Go.RowKit Thr

set_option maxRecDepth 100000 in
theorem walk {H : Type} {enc : TypeId × Value → H} (W : World) (base : Nat) (v0 : Value) (d0 : DataW H) (p0 : List MemPlace) (v1 : Value) (d1 : DataW H) (p1 : List MemPlace)
    (h0 : DataW.Trod enc Try.prog W 0 (fun _ => true) true 5 v0 d0 p0) (h1 : DataW.Trod enc Try.prog W 0 (fun _ => true) true 5 v1 d1 p1)
    (k0 : Value.okWide Try.prog W .any base 5 v0) (k1 : Value.okWide Try.prog W .any base 5 v1)
    (_l0 : ∀ x ∈ p0, x.block < W.heap.size) (_l1 : ∀ x ∈ p1, x.block < W.heap.size) :
    Calls Try.prog 9 #[v0, v1] W fun e w' => e = .returned (.bool true) ∧ Below W.heap.size W w' := by
  obtain ⟨a0, rfl, _, _, w0⟩ := ChangeShapes.open_int Try.underlying5 k0 h0
  obtain ⟨a1, rfl, _, _, w1⟩ := ChangeShapes.open_int Try.underlying5 k1 h1
  obtain ⟨x, rfl⟩ := Int.eq_ofNat_of_zero_le (bounds_u8 w0).1
  obtain ⟨y, rfl⟩ := Int.eq_ofNat_of_zero_le (bounds_u8 w1).1
  exact tnil_any x y W
end Go.Proofs.Ytbamfnlgapchkaa.ThriftNilW
