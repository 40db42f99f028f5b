/- The walk of ChainOf, its arguments opened. Conditions: the arguments can be read. -/
import Derived.Test.YtbamfnlgapchkaaChOfL
import Derived.Test.YtbamfnlgapchkaaOpenU8
namespace Go.Proofs.Ytbamfnlgapchkaa.ChainOfW
open Go.RowKit Chn

set_option maxRecDepth 100000 in
theorem walk {H : Type} {enc : TypeId × Value → H} (W : World) (base : Nat) (v0 : Value) (d0 : DataW H) (p0 : List MemPlace) (v1 : Value) (d1 : DataW H) (p1 : List MemPlace) (v2 : Value) (d2 : DataW H) (p2 : List MemPlace) (v3 : Value) (d3 : DataW H) (p3 : List MemPlace) (v4 : Value) (d4 : DataW H) (p4 : List MemPlace)
    (h0 : DataW.Trod enc Try.prog W 0 (fun _ => true) true 26 v0 d0 p0) (h1 : DataW.Trod enc Try.prog W 0 (fun _ => true) true 9 v1 d1 p1) (h2 : DataW.Trod enc Try.prog W 0 (fun _ => true) true 22 v2 d2 p2) (h3 : DataW.Trod enc Try.prog W 0 (fun _ => true) true 26 v3 d3 p3) (h4 : DataW.Trod enc Try.prog W 0 (fun _ => true) true 26 v4 d4 p4)
    (k0 : Value.okWide Try.prog W .any base 26 v0) (k1 : Value.okWide Try.prog W .any base 9 v1) (k2 : Value.okWide Try.prog W .any base 22 v2) (k3 : Value.okWide Try.prog W .any base 26 v3) (k4 : Value.okWide Try.prog W .any base 26 v4)
    (_l0 : ∀ x ∈ p0, x.block < W.heap.size) (_l1 : ∀ x ∈ p1, x.block < W.heap.size) (_l2 : ∀ x ∈ p2, x.block < W.heap.size) (_l3 : ∀ x ∈ p3, x.block < W.heap.size) (_l4 : ∀ x ∈ p4, x.block < W.heap.size) :
    Calls Try.prog 4 #[v0, v1, v2, v3, v4] W fun e w' => e = .returned (.bool true) ∧ Below W.heap.size W w' := by
  obtain ⟨a0, rfl, _, _, w0⟩ := ChangeShapes.open_int Try.underlying26 k0 h0
  obtain ⟨x, rfl⟩ := Int.eq_ofNat_of_zero_le (bounds_u64 w0).1
  obtain ⟨t8, rfl, hl8⟩ := open_str h1 k1
  obtain ⟨A2, c2, l2, rfl, r2, f2, _⟩ := open_u8s h2 k2
  obtain ⟨a3, rfl, _, _, w3⟩ := ChangeShapes.open_int Try.underlying26 k3 h3
  obtain ⟨y, rfl⟩ := Int.eq_ofNat_of_zero_le (bounds_u64 w3).1
  obtain ⟨a4, rfl, _, _, w4⟩ := ChangeShapes.open_int Try.underlying26 k4 h4
  obtain ⟨z, rfl⟩ := Int.eq_ofNat_of_zero_le (bounds_u64 w4).1
  exact cof_any x (by have := (bounds_u64 w0).2; omega) t8 hl8 l2 f2 _ rfl A2 c2 y z (by have := (bounds_u64 w3).2; omega) (by have := (bounds_u64 w4).2; omega) W r2
end Go.Proofs.Ytbamfnlgapchkaa.ChainOfW
