/- The walk of ClientOnce, its arguments opened. Conditions: the arguments can be read. -/
import Derived.Test.YtgpdggojajjppaaCliOnceL
import Derived.Test.YtgpdggojajjppaaOpen
namespace Go.Proofs.Ytgpdggojajjppaa.ClientOnceW
open Go.RowKit Cli

set_option maxRecDepth 100000 in
theorem walk {H : Type} {enc : TypeId × Value → H} (W : World) (base : Nat) (v0 : Value) (d0 : DataW H) (p0 : List MemPlace) (v1 : Value) (d1 : DataW H) (p1 : List MemPlace) (v2 : Value) (d2 : DataW H) (p2 : List MemPlace)
    (h0 : DataW.Trod enc Try.prog W 0 (fun _ => true) true 5 v0 d0 p0) (h1 : DataW.Trod enc Try.prog W 0 (fun _ => true) true 3 v1 d1 p1) (h2 : DataW.Trod enc Try.prog W 0 (fun _ => true) true 22 v2 d2 p2)
    (k0 : Value.okWide Try.prog W .any base 5 v0) (k1 : Value.okWide Try.prog W .any base 3 v1) (k2 : Value.okWide Try.prog W .any base 22 v2)
    (_l0 : ∀ x ∈ p0, x.block < W.heap.size) (_l1 : ∀ x ∈ p1, x.block < W.heap.size) (_l2 : ∀ x ∈ p2, x.block < W.heap.size) :
    Calls Try.prog 5 #[v0, v1, v2] W fun e w' => e = .returned (.bool true) ∧ Below W.heap.size W w' := by
  obtain ⟨a0, rfl, _, _, w0⟩ := ChangeShapes.open_int Try.underlying5 k0 h0
  obtain ⟨a1, rfl, _, _, w1⟩ := ChangeShapes.open_int Try.underlying3 k1 h1
  have b0 := bounds_u8 w0
  obtain ⟨x, rfl⟩ := Int.eq_ofNat_of_zero_le b0.1
  obtain ⟨A, c, l, rfl, hA, hf, hl⟩ := open_acts h2 k2
  exact conce_any x (by omega) a1 l l.length rfl hf hl A c W hA
end Go.Proofs.Ytgpdggojajjppaa.ClientOnceW
