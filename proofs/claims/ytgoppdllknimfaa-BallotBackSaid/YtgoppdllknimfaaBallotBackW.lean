/- The walk of BallotBack, its argument opened. Conditions: the argument can be read. -/
import Derived.Test.YtgoppdllknimfaaBalBack
namespace Go.Proofs.Ytgoppdllknimfaa.BallotBackW
open Go.RowKit Bal

theorem walk {H : Type} {enc : TypeId × Value → H} (W : World) (base : Nat) (v0 : Value) (d0 : DataW H) (p0 : List MemPlace)
    (h0 : DataW.Trod enc Try.prog W 0 (fun _ => true) true 22 v0 d0 p0)
    (k0 : Value.okWide Try.prog W .any base 22 v0)
    (_l0 : ∀ x ∈ p0, x.block < W.heap.size) :
    Calls Try.prog 13 #[v0] W fun e w' => e = .returned (.bool true) ∧ Below W.heap.size W w' := by
  obtain ⟨A, c, l, rfl, hb, hf, hl⟩ := open_balls h0 k0
  exact back_any l (by unfold maxLen at hl; omega) hf A c W hb
end Go.Proofs.Ytgoppdllknimfaa.BallotBackW
