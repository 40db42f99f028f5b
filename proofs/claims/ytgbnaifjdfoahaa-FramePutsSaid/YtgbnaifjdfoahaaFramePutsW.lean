/- The walk of FramePuts, its arguments opened. Conditions: the arguments can be read. -/
import Derived.Test.YtgbnaifjdfoahaaFramePutsL
import Derived.Test.YtgbnaifjdfoahaaWireOpen
namespace Go.Proofs.Ytgbnaifjdfoahaa.FramePutsW
open Go.RowKit Wire

set_option maxRecDepth 100000 in
theorem walk {H : Type} {enc : TypeId × Value → H} (W : World) (base : Nat) (v0 : Value) (d0 : DataW H) (p0 : List MemPlace) (v1 : Value) (d1 : DataW H) (p1 : List MemPlace)
    (h0 : DataW.Trod enc Try.prog W 0 (fun _ => true) true 40 v0 d0 p0) (h1 : DataW.Trod enc Try.prog W 0 (fun _ => true) true 9 v1 d1 p1)
    (k0 : Value.okWide Try.prog W .any base 40 v0) (k1 : Value.okWide Try.prog W .any base 9 v1)
    (_l0 : ∀ x ∈ p0, x.block < W.heap.size) (_l1 : ∀ x ∈ p1, x.block < W.heap.size) :
    Calls Try.prog 6 #[v0, v1] W fun e w' => e = .returned (.bool true) ∧ Below W.heap.size W w' := by
  obtain ⟨A, c, l, rfl, hr, hl⟩ := open_bytes Try.underlying40 Try.underlying5 (by rfl) h0 k0
  obtain ⟨s, rfl, hs⟩ := open_text Try.underlying9 h1 k1
  exact Frame.fputs_any l s A c hl hs W hr
end Go.Proofs.Ytgbnaifjdfoahaa.FramePutsW
