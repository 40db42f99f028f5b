/- The walk of NetPlays, its arguments opened. Conditions: the arguments can be read. -/
import Derived.Test.YteiaiilfekojfaaGreatPkNetPlays6
namespace Go.Proofs.YteiaiilfekojfaaGreat.NetPlaysW
open Go.RowKit Net

set_option maxRecDepth 100000 in
theorem walk {H : Type} {enc : TypeId × Value → H} (W : World) (base : Nat) (v0 : Value) (d0 : DataW H) (p0 : List MemPlace) (v1 : Value) (d1 : DataW H) (p1 : List MemPlace) (v2 : Value) (d2 : DataW H) (p2 : List MemPlace)
    (h0 : DataW.Trod enc Tryz.prog W 0 (fun _ => true) true 47 v0 d0 p0) (h1 : DataW.Trod enc Tryz.prog W 0 (fun _ => true) true 5 v1 d1 p1) (h2 : DataW.Trod enc Tryz.prog W 0 (fun _ => true) true 5 v2 d2 p2)
    (k0 : Value.okWide Tryz.prog W .any base 47 v0) (k1 : Value.okWide Tryz.prog W .any base 5 v1) (k2 : Value.okWide Tryz.prog W .any base 5 v2)
    (_l0 : ∀ x ∈ p0, x.block < W.heap.size) (_l1 : ∀ x ∈ p1, x.block < W.heap.size) (_l2 : ∀ x ∈ p2, x.block < W.heap.size) :
    Calls Tryz.prog 7 #[v0, v1, v2] W fun e w' => e = .returned (.bool true) ∧ Below W.heap.size W w' := by
  obtain ⟨A, c, l, rfl, hA, hQ, hl⟩ := open_nas h0 k0
  obtain ⟨a0, rfl, _, _, w0⟩ := ChangeShapes.open_int Tryz.underlying5 k1 h1
  obtain ⟨x, rfl⟩ := Int.eq_ofNat_of_zero_le (bounds_u8 w0).1
  obtain ⟨a1, rfl, _, _, w1⟩ := ChangeShapes.open_int Tryz.underlying5 k2 h2
  obtain ⟨y, rfl⟩ := Int.eq_ofNat_of_zero_le (bounds_u8 w1).1
  exact plays_any l x y A c W hA hQ hl
end Go.Proofs.YteiaiilfekojfaaGreat.NetPlaysW
