/- The walk of ElectBinds, its arguments opened. Conditions: the arguments can be read. -/
import Derived.Test.YtbamfnlgapchkaaElBindsL
import Derived.Test.YtbamfnlgapchkaaElOpen
namespace Go.Proofs.Ytbamfnlgapchkaa.ElectBindsW
open Go.RowKit Ele

set_option maxRecDepth 100000 in
theorem walk {H : Type} {enc : TypeId × Value → H} (W : World) (base : Nat) (v0 : Value) (d0 : DataW H) (p0 : List MemPlace) (v1 : Value) (d1 : DataW H) (p1 : List MemPlace) (v2 : Value) (d2 : DataW H) (p2 : List MemPlace) (v3 : Value) (d3 : DataW H) (p3 : List MemPlace) (v4 : Value) (d4 : DataW H) (p4 : List MemPlace)
    (h0 : DataW.Trod enc Try.prog W 0 (fun _ => true) true 5 v0 d0 p0) (h1 : DataW.Trod enc Try.prog W 0 (fun _ => true) true 69 v1 d1 p1) (h2 : DataW.Trod enc Try.prog W 0 (fun _ => true) true 71 v2 d2 p2) (h3 : DataW.Trod enc Try.prog W 0 (fun _ => true) true 22 v3 d3 p3) (h4 : DataW.Trod enc Try.prog W 0 (fun _ => true) true 26 v4 d4 p4)
    (k0 : Value.okWide Try.prog W .any base 5 v0) (k1 : Value.okWide Try.prog W .any base 69 v1) (k2 : Value.okWide Try.prog W .any base 71 v2) (k3 : Value.okWide Try.prog W .any base 22 v3) (k4 : Value.okWide Try.prog W .any base 26 v4)
    (_l0 : ∀ x ∈ p0, x.block < W.heap.size) (_l1 : ∀ x ∈ p1, x.block < W.heap.size) (_l2 : ∀ x ∈ p2, x.block < W.heap.size) (_l3 : ∀ x ∈ p3, x.block < W.heap.size) (_l4 : ∀ x ∈ p4, x.block < W.heap.size) :
    Calls Try.prog 11 #[v0, v1, v2, v3, v4] W fun e w' => e = .returned (.bool true) ∧ Below W.heap.size W w' := by
  obtain ⟨a0, rfl, _, _, w0⟩ := ChangeShapes.open_int Try.underlying5 k0 h0
  obtain ⟨x, rfl⟩ := Int.eq_ofNat_of_zero_le (bounds_u8 w0).1
  obtain ⟨A, c, V, rfl, r1, f1, m1⟩ := open_votes h1 k1
  obtain ⟨b, rfl, _, _⟩ := open_ballot h2
  obtain ⟨A3, c3, l3, rfl, r3, f3, m3⟩ := open_u8s h3 k3
  obtain ⟨a4, rfl, _, _, w4⟩ := ChangeShapes.open_int Try.underlying26 k4 h4
  obtain ⟨y, rfl⟩ := Int.eq_ofNat_of_zero_le (bounds_u64 w4).1
  exact ebinds_any x (by have := (bounds_u8 w0).2; omega) V _ rfl m1 A c b l3 f3 _ rfl m3 A3 c3 y W r1 f1 r3
end Go.Proofs.Ytbamfnlgapchkaa.ElectBindsW
