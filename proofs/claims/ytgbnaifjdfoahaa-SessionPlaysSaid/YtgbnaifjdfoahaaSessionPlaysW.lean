/- The walk of SessionPlays, its arguments opened. Conditions: the arguments can be read. -/
import Derived.Test.YtgbnaifjdfoahaaSessPlaysL
namespace Go.Proofs.Ytgbnaifjdfoahaa.SessionPlaysW
open Go.RowKit Sess

set_option maxRecDepth 100000 in
theorem walk {H : Type} {enc : TypeId × Value → H} (W : World) (base : Nat) (v0 : Value) (d0 : DataW H) (p0 : List MemPlace)
    (h0 : DataW.Trod enc Try.prog W 0 (fun _ => true) true 22 v0 d0 p0)
    (k0 : Value.okWide Try.prog W .any base 22 v0)
    (_l0 : ∀ x ∈ p0, x.block < W.heap.size) :
    Calls Try.prog 3 #[v0] W fun e w' => e = .returned (.bool true) ∧ Below W.heap.size W w' := by
  obtain ⟨A, c, l, rfl, hb, hf, hl⟩ := open_kepts h0 k0
  exact plays_any l (by unfold maxLen at hl; omega) hf A c W (rows_kepts hb)
end Go.Proofs.Ytgbnaifjdfoahaa.SessionPlaysW
