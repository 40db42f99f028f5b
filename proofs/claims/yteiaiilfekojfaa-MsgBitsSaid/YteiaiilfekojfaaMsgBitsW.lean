/- The walk of MsgBits, its arguments opened. Conditions: the arguments can be read. -/
import Derived.Test.YteiaiilfekojfaaPkBitsA5
namespace Go.Proofs.Yteiaiilfekojfaa.MsgBitsW
open Go.RowKit Msg Wire

set_option maxRecDepth 100000 in
theorem walk {H : Type} {enc : TypeId × Value → H} (W : World) (base : Nat) (v0 : Value) (d0 : DataW H) (p0 : List MemPlace) (v1 : Value) (d1 : DataW H) (p1 : List MemPlace)
    (h0 : DataW.Trod enc Try.prog W 0 (fun _ => true) true 45 v0 d0 p0) (h1 : DataW.Trod enc Try.prog W 0 (fun _ => true) true 34 v1 d1 p1)
    (k0 : Value.okWide Try.prog W .any base 45 v0) (k1 : Value.okWide Try.prog W .any base 34 v1)
    (_l0 : ∀ x ∈ p0, x.block < W.heap.size) (_l1 : ∀ x ∈ p1, x.block < W.heap.size) :
    Calls Try.prog 6 #[v0, v1] W fun e w' => e = .returned (.bool true) ∧ Below W.heap.size W w' := by
  obtain ⟨m, A, ka, B, kb, rfl, hf, hr, hn1, hn2⟩ := open_msg h0
  obtain ⟨a, rfl, _, _, wa⟩ := ChangeShapes.open_int Try.underlying34 k1 h1
  obtain ⟨x, rfl⟩ := Int.eq_ofNat_of_zero_le (bounds_u32 wa).1
  have hx := (bounds_u32 wa).2
  exact bits_any m x A B ka kb W hf hr hn1 hn2 (by omega)
end Go.Proofs.Yteiaiilfekojfaa.MsgBitsW
