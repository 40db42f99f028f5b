/- The walk of NetOrder, its arguments opened. Conditions: the arguments can be read. -/
import Derived.Test.YteiaiilfekojfaaGreatPkNetOrder4
namespace Go.Proofs.YteiaiilfekojfaaGreat.NetOrderW
open Go.RowKit Net

set_option maxRecDepth 100000 in
theorem walk {H : Type} {enc : TypeId × Value → H} (W : World) (base : Nat) (v0 : Value) (d0 : DataW H) (p0 : List MemPlace) (v1 : Value) (d1 : DataW H) (p1 : List MemPlace)
    (h0 : DataW.Trod enc Tryz.prog W 0 (fun _ => true) true 51 v0 d0 p0) (h1 : DataW.Trod enc Tryz.prog W 0 (fun _ => true) true 70 v1 d1 p1)
    (k0 : Value.okWide Tryz.prog W .any base 51 v0) (k1 : Value.okWide Tryz.prog W .any base 70 v1)
    (_l0 : ∀ x ∈ p0, x.block < W.heap.size) (_l1 : ∀ x ∈ p1, x.block < W.heap.size) :
    Calls Tryz.prog 6 #[v0, v1] W fun e w' => e = .returned (.bool true) ∧ Below W.heap.size W w' := by
  obtain ⟨A, c, l, rfl, hA, -, hl⟩ := open_prs h0 k0
  obtain ⟨B, d, o, rfl, hB, hW, ho⟩ := open_ws h1 k1
  exact order_any l o A B c d W hA hl hB hW ho
end Go.Proofs.YteiaiilfekojfaaGreat.NetOrderW
