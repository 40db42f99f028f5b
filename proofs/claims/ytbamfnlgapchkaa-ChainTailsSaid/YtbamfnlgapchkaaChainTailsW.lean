/- The walk of ChainTails, its arguments opened. Conditions: the arguments can be read. -/
import Derived.Test.YtbamfnlgapchkaaChTailsL
import Derived.Test.YtbamfnlgapchkaaOpenU8
namespace Go.Proofs.Ytbamfnlgapchkaa.ChainTailsW
open Go.RowKit Chn

set_option maxRecDepth 100000 in
theorem walk {H : Type} {enc : TypeId × Value → H} (W : World) (base : Nat) (v0 : Value) (d0 : DataW H) (p0 : List MemPlace) (v1 : Value) (d1 : DataW H) (p1 : List MemPlace) (v2 : Value) (d2 : DataW H) (p2 : List MemPlace)
    (h0 : DataW.Trod enc Try.prog W 0 (fun _ => true) true 5 v0 d0 p0) (h1 : DataW.Trod enc Try.prog W 0 (fun _ => true) true 22 v1 d1 p1) (h2 : DataW.Trod enc Try.prog W 0 (fun _ => true) true 22 v2 d2 p2)
    (k0 : Value.okWide Try.prog W .any base 5 v0) (k1 : Value.okWide Try.prog W .any base 22 v1) (k2 : Value.okWide Try.prog W .any base 22 v2)
    (_l0 : ∀ x ∈ p0, x.block < W.heap.size) (_l1 : ∀ x ∈ p1, x.block < W.heap.size) (_l2 : ∀ x ∈ p2, x.block < W.heap.size) :
    Calls Try.prog 7 #[v0, v1, v2] W fun e w' => e = .returned (.bool true) ∧ Below W.heap.size W w' := by
  obtain ⟨a0, rfl, _, _, w0⟩ := ChangeShapes.open_int Try.underlying5 k0 h0
  obtain ⟨x, rfl⟩ := Int.eq_ofNat_of_zero_le (bounds_u8 w0).1
  obtain ⟨A1, c1, l1, rfl, r1, f1, _⟩ := open_u8s h1 k1
  obtain ⟨A2, c2, l2, rfl, r2, f2, _⟩ := open_u8s h2 k2
  exact ctails_any x (by have := (bounds_u8 w0).2; omega) l1 l2 f1 f2 _ _ rfl rfl A1 A2 c1 c2 W r1 r2
end Go.Proofs.Ytbamfnlgapchkaa.ChainTailsW
