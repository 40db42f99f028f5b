/- The walk of FrameRows, its arguments opened. Conditions: the arguments can be read. -/
import Derived.Test.YtgbnaifjdfoahaaFrameRowsL
import Derived.Test.YtgbnaifjdfoahaaOpenStrs
namespace Go.Proofs.Ytgbnaifjdfoahaa.FrameRowsW
open Go.RowKit 

set_option maxRecDepth 100000 in
theorem walk {H : Type} {enc : TypeId × Value → H} (W : World) (base : Nat) (v0 : Value) (d0 : DataW H) (p0 : List MemPlace) (v1 : Value) (d1 : DataW H) (p1 : List MemPlace) (v2 : Value) (d2 : DataW H) (p2 : List MemPlace)
    (h0 : DataW.Trod enc Try.prog W 0 (fun _ => true) true 59 v0 d0 p0) (h1 : DataW.Trod enc Try.prog W 0 (fun _ => true) true 25 v1 d1 p1) (h2 : DataW.Trod enc Try.prog W 0 (fun _ => true) true 25 v2 d2 p2)
    (k0 : Value.okWide Try.prog W .any base 59 v0) (k1 : Value.okWide Try.prog W .any base 25 v1) (k2 : Value.okWide Try.prog W .any base 25 v2)
    (_l0 : ∀ x ∈ p0, x.block < W.heap.size) (_l1 : ∀ x ∈ p1, x.block < W.heap.size) (_l2 : ∀ x ∈ p2, x.block < W.heap.size) :
    Calls Try.prog 7 #[v0, v1, v2] W fun e w' => e = .returned (.bool true) ∧ Below W.heap.size W w' := by
  obtain ⟨A, c, l, rfl, hr, hl, _⟩ := Frame.open_texts Try.underlying59 Try.underlying9 (by rfl) h0 k0
  obtain ⟨a1, rfl, _, _, w1⟩ := ChangeShapes.open_int Try.underlying25 k1 h1
  obtain ⟨a2, rfl, _, _, w2⟩ := ChangeShapes.open_int Try.underlying25 k2 h2
  have b1 := bounds_u32 w1
  have b2 := bounds_u32 w2
  obtain ⟨n1, rfl⟩ := Int.eq_ofNat_of_zero_le b1.1
  obtain ⟨n2, rfl⟩ := Int.eq_ofNat_of_zero_le b2.1
  exact Frame.frows_any l A c hl n1 n2 (by omega) (by omega) W hr
end Go.Proofs.Ytgbnaifjdfoahaa.FrameRowsW
