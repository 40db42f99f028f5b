/- The walk of MsgBack, its arguments opened. Conditions: the arguments can be read. -/
import Derived.Test.YteiaiilfekojfaaPkBackA5
import Derived.Test.YteiaiilfekojfaaWireOpen
namespace Go.Proofs.Yteiaiilfekojfaa.MsgBackW
open Go.RowKit Msg Wire

set_option maxRecDepth 100000 in
theorem walk {H : Type} {enc : TypeId × Value → H} (W : World) (base : Nat) (v0 : Value) (d0 : DataW H) (p0 : List MemPlace) (v1 : Value) (d1 : DataW H) (p1 : List MemPlace) (v2 : Value) (d2 : DataW H) (p2 : List MemPlace)
    (h0 : DataW.Trod enc Try.prog W 0 (fun _ => true) true 45 v0 d0 p0) (h1 : DataW.Trod enc Try.prog W 0 (fun _ => true) true 45 v1 d1 p1) (h2 : DataW.Trod enc Try.prog W 0 (fun _ => true) true 9 v2 d2 p2)
    (k0 : Value.okWide Try.prog W .any base 45 v0) (k1 : Value.okWide Try.prog W .any base 45 v1) (k2 : Value.okWide Try.prog W .any base 9 v2)
    (_l0 : ∀ x ∈ p0, x.block < W.heap.size) (_l1 : ∀ x ∈ p1, x.block < W.heap.size) (_l2 : ∀ x ∈ p2, x.block < W.heap.size) :
    Calls Try.prog 5 #[v0, v1, v2] W fun e w' => e = .returned (.bool true) ∧ Below W.heap.size W w' := by
  obtain ⟨m, A, ka, B, kb, rfl, hf, hr, hn1, hn2⟩ := open_msg h0
  obtain ⟨x, C, kc, D, kd, rfl, hf2, hr2, hn3, hn4⟩ := open_msg h1
  obtain ⟨s, rfl, _⟩ := open_text (by kernel_rfl) h2 k2
  exact back_any m x s A B C D ka kb kc kd W hf hr hn1 hn2 hf2 hr2 hn3 hn4
end Go.Proofs.Yteiaiilfekojfaa.MsgBackW
