/- The walk of FrameKnown. Conditions: none. -/
import Derived.Test.YtgbnaifjdfoahaaFrameKnownL
namespace Go.Proofs.Ytgbnaifjdfoahaa.FrameKnownW
open Go.RowKit

theorem walk (W : World) : Calls Try.prog 8 #[] W fun e w' => e = .returned (.bool true) ∧ Below W.heap.size W w' := Frame.fknown_any W
end Go.Proofs.Ytgbnaifjdfoahaa.FrameKnownW
