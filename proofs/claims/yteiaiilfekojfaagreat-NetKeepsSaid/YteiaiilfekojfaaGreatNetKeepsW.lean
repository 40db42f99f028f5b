/- The walk of NetKeeps, its arguments opened. Conditions: the arguments can be read. -/
import Derived.Test.YteiaiilfekojfaaGreatPkNetKeeps4
namespace Go.Proofs.YteiaiilfekojfaaGreat.NetKeepsW
open Go.RowKit Net

set_option maxRecDepth 100000 in
theorem walk {H : Type} {enc : TypeId × Value → H} (W : World) (base : Nat) (v0 : Value) (d0 : DataW H) (p0 : List MemPlace)
    (h0 : DataW.Trod enc Tryz.prog W 0 (fun _ => true) true 47 v0 d0 p0)
    (k0 : Value.okWide Tryz.prog W .any base 47 v0)
    (_l0 : ∀ x ∈ p0, x.block < W.heap.size) :
    Calls Tryz.prog 5 #[v0] W fun e w' => e = .returned (.bool true) ∧ Below W.heap.size W w' := by
  obtain ⟨A, c, l, rfl, hA, hQ, hl⟩ := open_nas h0 k0
  exact keeps_any l A c W hA hQ hl
end Go.Proofs.YteiaiilfekojfaaGreat.NetKeepsW
