/- The walk of MsgLong. Conditions: none. -/
import Derived.Test.YteiaiilfekojfaaPkBitsA5
namespace Go.Proofs.Yteiaiilfekojfaa.MsgLongW
open Go.RowKit Msg

theorem walk (W : World) : Calls Try.prog 4 #[] W fun e w' => e = .returned (.bool true) ∧ Below W.heap.size W w' := long_any W
end Go.Proofs.Yteiaiilfekojfaa.MsgLongW
