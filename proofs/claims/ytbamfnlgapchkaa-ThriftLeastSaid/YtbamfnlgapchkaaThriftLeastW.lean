/- The walk of ThriftLeast, its arguments opened. Conditions: the arguments can be read. -/
import Derived.Test.YtbamfnlgapchkaaThLeastL
import Derived.Test.YtbamfnlgapchkaaOpenU8
namespace Go.Proofs.Ytbamfnlgapchkaa.ThriftLeastW
open Go.RowKit Thr

set_option maxRecDepth 100000 in
theorem walk {H : Type} {enc : TypeId × Value → H} (W : World) (base : Nat) (v0 : Value) (d0 : DataW H) (p0 : List MemPlace) (v1 : Value) (d1 : DataW H) (p1 : List MemPlace) (v2 : Value) (d2 : DataW H) (p2 : List MemPlace)
    (h0 : DataW.Trod enc Try.prog W 0 (fun _ => true) true 5 v0 d0 p0) (h1 : DataW.Trod enc Try.prog W 0 (fun _ => true) true 22 v1 d1 p1) (h2 : DataW.Trod enc Try.prog W 0 (fun _ => true) true 5 v2 d2 p2)
    (k0 : Value.okWide Try.prog W .any base 5 v0) (k1 : Value.okWide Try.prog W .any base 22 v1) (k2 : Value.okWide Try.prog W .any base 5 v2)
    (_l0 : ∀ x ∈ p0, x.block < W.heap.size) (_l1 : ∀ x ∈ p1, x.block < W.heap.size) (_l2 : ∀ x ∈ p2, x.block < W.heap.size) :
    Calls Try.prog 10 #[v0, v1, v2] W fun e w' => e = .returned (.bool true) ∧ Below W.heap.size W w' := by
  obtain ⟨a0, rfl, _, _, w0⟩ := ChangeShapes.open_int Try.underlying5 k0 h0
  obtain ⟨A1, c1, l1, rfl, r1, f1, m1⟩ := open_u8s h1 k1
  obtain ⟨a2, rfl, _, _, w2⟩ := ChangeShapes.open_int Try.underlying5 k2 h2
  obtain ⟨x, rfl⟩ := Int.eq_ofNat_of_zero_le (bounds_u8 w0).1
  obtain ⟨y, rfl⟩ := Int.eq_ofNat_of_zero_le (bounds_u8 w2).1
  exact tleast_any x (by have := (bounds_u8 w0).2; omega) l1 f1 _ rfl m1 A1 c1 y (by have := (bounds_u8 w2).2; omega) W r1
end Go.Proofs.Ytbamfnlgapchkaa.ThriftLeastW
