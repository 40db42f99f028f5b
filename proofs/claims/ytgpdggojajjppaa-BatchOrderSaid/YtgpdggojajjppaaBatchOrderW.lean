/- The walk of BatchOrder, its arguments opened. Conditions: the arguments can be read. -/
import Derived.Test.YtgpdggojajjppaaBatOrderL
import Derived.Test.YtgpdggojajjppaaOpen
namespace Go.Proofs.Ytgpdggojajjppaa.BatchOrderW
open Go.RowKit Bat

set_option maxRecDepth 100000 in
theorem walk {H : Type} {enc : TypeId × Value → H} (W : World) (base : Nat) (v0 : Value) (d0 : DataW H) (p0 : List MemPlace)
    (h0 : DataW.Trod enc Try.prog W 0 (fun _ => true) true 68 v0 d0 p0)
    (k0 : Value.okWide Try.prog W .any base 68 v0)
    (_l0 : ∀ x ∈ p0, x.block < W.heap.size) :
    Calls Try.prog 9 #[v0] W fun e w' => e = .returned (.bool true) ∧ Below W.heap.size W w' := by
  obtain ⟨A, c, l, rfl, hA, hf, hl⟩ := open_bas h0 k0
  exact border_any l l.length rfl hf hl A c W hA
end Go.Proofs.Ytgpdggojajjppaa.BatchOrderW
