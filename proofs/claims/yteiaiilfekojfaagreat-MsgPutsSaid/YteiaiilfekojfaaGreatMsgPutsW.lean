/- The walk of MsgPuts, its arguments opened. Conditions: the arguments can be read. -/
import Derived.Test.YteiaiilfekojfaaGreatPkPutsA4
namespace Go.Proofs.YteiaiilfekojfaaGreat.MsgPutsW
open Go.RowKit Msg

set_option maxRecDepth 100000 in
theorem walk {H : Type} {enc : TypeId × Value → H} (W : World) (base : Nat) (v0 : Value) (d0 : DataW H) (p0 : List MemPlace) (v1 : Value) (d1 : DataW H) (p1 : List MemPlace)
    (h0 : DataW.Trod enc Tryz.prog W 0 (fun _ => true) true 33 v0 d0 p0) (h1 : DataW.Trod enc Tryz.prog W 0 (fun _ => true) true 33 v1 d1 p1)
    (k0 : Value.okWide Tryz.prog W .any base 33 v0) (k1 : Value.okWide Tryz.prog W .any base 33 v1)
    (_l0 : ∀ x ∈ p0, x.block < W.heap.size) (_l1 : ∀ x ∈ p1, x.block < W.heap.size) :
    Calls Tryz.prog 3 #[v0, v1] W fun e w' => e = .returned (.bool true) ∧ Below W.heap.size W w' := by
  obtain ⟨m, A, ka, B, kb, rfl, hf, hr, hn1, hn2⟩ := open_msg h0
  obtain ⟨x, C, kc, D, kd, rfl, hf2, hr2, hn3, hn4⟩ := open_msg h1
  exact puts_any m x A B C D ka kb kc kd W hf hr hn1 hn2 hf2 hr2 hn3 hn4
end Go.Proofs.YteiaiilfekojfaaGreat.MsgPutsW
