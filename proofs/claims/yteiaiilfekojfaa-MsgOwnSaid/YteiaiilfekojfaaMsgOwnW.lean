/- The walk of MsgOwn, its arguments opened. Conditions: the arguments can be read. -/
import Derived.Test.YteiaiilfekojfaaPkMsgOwn5
namespace Go.Proofs.Yteiaiilfekojfaa.MsgOwnW
open Go.RowKit Msg

set_option maxRecDepth 100000 in
theorem walk {H : Type} {enc : TypeId × Value → H} (W : World) (base : Nat) (v0 : Value) (d0 : DataW H) (p0 : List MemPlace)
    (h0 : DataW.Trod enc Try.prog W 0 (fun _ => true) true 45 v0 d0 p0)
    (k0 : Value.okWide Try.prog W .any base 45 v0)
    (_l0 : ∀ x ∈ p0, x.block < W.heap.size) :
    Calls Try.prog 7 #[v0] W fun e w' => e = .returned (.bool true) ∧ Below W.heap.size W w' := by
  obtain ⟨m, A, ka, B, kb, rfl, hf, hr, hn1, hn2⟩ := open_msg h0
  exact own_any m A B ka kb W hf hr hn1 hn2
end Go.Proofs.Yteiaiilfekojfaa.MsgOwnW
