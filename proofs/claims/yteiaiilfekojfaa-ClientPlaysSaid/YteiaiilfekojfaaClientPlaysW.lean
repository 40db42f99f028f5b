/- The walk of ClientPlays, its arguments opened. Conditions: the arguments can be read. -/
import Derived.Test.YteiaiilfekojfaaCliPlaysL
import Derived.Test.YteiaiilfekojfaaCliOpen
namespace Go.Proofs.Yteiaiilfekojfaa.ClientPlaysW
open Go.RowKit Cli

set_option maxRecDepth 100000 in
theorem walk {H : Type} {enc : TypeId × Value → H} (W : World) (base : Nat) (v0 : Value) (d0 : DataW H) (p0 : List MemPlace) (v1 : Value) (d1 : DataW H) (p1 : List MemPlace) (v2 : Value) (d2 : DataW H) (p2 : List MemPlace)
    (h0 : DataW.Trod enc Try.prog W 0 (fun _ => true) true 5 v0 d0 p0) (h1 : DataW.Trod enc Try.prog W 0 (fun _ => true) true 3 v1 d1 p1) (h2 : DataW.Trod enc Try.prog W 0 (fun _ => true) true 22 v2 d2 p2)
    (k0 : Value.okWide Try.prog W .any base 5 v0) (k1 : Value.okWide Try.prog W .any base 3 v1) (k2 : Value.okWide Try.prog W .any base 22 v2)
    (_l0 : ∀ x ∈ p0, x.block < W.heap.size) (_l1 : ∀ x ∈ p1, x.block < W.heap.size) (_l2 : ∀ x ∈ p2, x.block < W.heap.size) :
    Calls Try.prog 3 #[v0, v1, v2] W fun e w' => e = .returned (.bool true) ∧ Below W.heap.size W w' := by
  obtain ⟨a0, rfl, _, _, w0⟩ := ChangeShapes.open_int Try.underlying5 k0 h0
  obtain ⟨x, rfl⟩ := Int.eq_ofNat_of_zero_le (bounds_u8 w0).1
  obtain ⟨a1, rfl, _, _, _⟩ := ChangeShapes.open_int Try.underlying3 k1 h1
  obtain ⟨A, c, l, rfl, hA, hQ, hl⟩ := open_acts h2 k2
  exact plays_any x a1 l A c W hA hQ hl
end Go.Proofs.Yteiaiilfekojfaa.ClientPlaysW
