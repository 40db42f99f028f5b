/- The walk of CmdReads, its arguments opened. Conditions: the arguments can be read. -/
import Derived.Test.YtgbnaifjdfoahaaCmdReadsL
import Derived.Test.YtgbnaifjdfoahaaWireOpen
namespace Go.Proofs.Ytgbnaifjdfoahaa.CmdReadsW
open Go.RowKit Wire Cmd

set_option maxRecDepth 100000 in
theorem walk {H : Type} {enc : TypeId × Value → H} (W : World) (base : Nat) (v0 : Value) (d0 : DataW H) (p0 : List MemPlace)
    (h0 : DataW.Trod enc Try.prog W 0 (fun _ => true) true 9 v0 d0 p0)
    (k0 : Value.okWide Try.prog W .any base 9 v0)
    (_l0 : ∀ x ∈ p0, x.block < W.heap.size) :
    Calls Try.prog 14 #[v0] W fun e w' => e = .returned (.bool true) ∧ Below W.heap.size W w' := by
  obtain ⟨s, rfl, hs⟩ := open_text Try.underlying9 h0 k0
  exact creads_any s hs W
end Go.Proofs.Ytgbnaifjdfoahaa.CmdReadsW
