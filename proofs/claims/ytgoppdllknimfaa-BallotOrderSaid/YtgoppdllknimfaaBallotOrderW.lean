/- The walk of BallotOrder, its arguments opened. Conditions: the arguments can be read. -/
import Derived.Test.YtgoppdllknimfaaBalOrder
namespace Go.Proofs.Ytgoppdllknimfaa.BallotOrderW
open Go.RowKit Bal

theorem walk {H : Type} {enc : TypeId × Value → H} (W : World) (base : Nat) (v0 : Value) (d0 : DataW H) (p0 : List MemPlace) (v1 : Value) (d1 : DataW H) (p1 : List MemPlace) (v2 : Value) (d2 : DataW H) (p2 : List MemPlace) (v3 : Value) (d3 : DataW H) (p3 : List MemPlace)
    (h0 : DataW.Trod enc Try.prog W 0 (fun _ => true) true 25 v0 d0 p0) (h1 : DataW.Trod enc Try.prog W 0 (fun _ => true) true 25 v1 d1 p1) (h2 : DataW.Trod enc Try.prog W 0 (fun _ => true) true 25 v2 d2 p2) (h3 : DataW.Trod enc Try.prog W 0 (fun _ => true) true 22 v3 d3 p3)
    (k0 : Value.okWide Try.prog W .any base 25 v0) (k1 : Value.okWide Try.prog W .any base 25 v1) (k2 : Value.okWide Try.prog W .any base 25 v2) (k3 : Value.okWide Try.prog W .any base 22 v3)
    (_l0 : ∀ x ∈ p0, x.block < W.heap.size) (_l1 : ∀ x ∈ p1, x.block < W.heap.size) (_l2 : ∀ x ∈ p2, x.block < W.heap.size) (_l3 : ∀ x ∈ p3, x.block < W.heap.size) :
    Calls Try.prog 4 #[v0, v1, v2, v3] W fun e w' => e = .returned (.bool true) ∧ Below W.heap.size W w' := by
  obtain ⟨a, rfl, _⟩ := open_bal h0 k0
  obtain ⟨b, rfl, _⟩ := open_bal h1 k1
  obtain ⟨c, rfl, _⟩ := open_bal h2 k2
  obtain ⟨A, cp, l, rfl, hb, _, hl⟩ := open_balls h3 k3
  exact order_all l (by unfold maxLen at hl; omega) a b c A cp W hb
end Go.Proofs.Ytgoppdllknimfaa.BallotOrderW
