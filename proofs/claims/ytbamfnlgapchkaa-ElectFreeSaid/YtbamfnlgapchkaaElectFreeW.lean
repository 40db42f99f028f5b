/- The walk of ElectFree, its arguments opened. Conditions: the arguments can be read. -/
import Derived.Test.YtbamfnlgapchkaaElFreeL
namespace Go.Proofs.Ytbamfnlgapchkaa.ElectFreeW
open Go.RowKit Ele

set_option maxRecDepth 100000 in
theorem walk {H : Type} {enc : TypeId × Value → H} (W : World) (base : Nat) (v0 : Value) (d0 : DataW H) (p0 : List MemPlace) (v1 : Value) (d1 : DataW H) (p1 : List MemPlace)
    (h0 : DataW.Trod enc Try.prog W 0 (fun _ => true) true 84 v0 d0 p0) (h1 : DataW.Trod enc Try.prog W 0 (fun _ => true) true 85 v1 d1 p1)
    (k0 : Value.okWide Try.prog W .any base 84 v0) (k1 : Value.okWide Try.prog W .any base 85 v1)
    (_l0 : ∀ x ∈ p0, x.block < W.heap.size) (_l1 : ∀ x ∈ p1, x.block < W.heap.size) :
    Calls Try.prog 12 #[v0, v1] W fun e w' => e = .returned (.bool true) ∧ Below W.heap.size W w' := by
  obtain ⟨A, c, l, rfl, r1, f1, m1⟩ := open_vls h0 k0
  obtain ⟨A2, c2, bs, rfl, r2, f2, m2⟩ := open_u64s h1 k1
  exact efree_any l _ rfl m1 A c bs _ rfl m2 A2 c2 W r1 f1 r2 f2
end Go.Proofs.Ytbamfnlgapchkaa.ElectFreeW
