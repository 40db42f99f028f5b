/- The walk of ElectPlays, its arguments opened. Conditions: the arguments can be read. -/
import Derived.Test.YtbamfnlgapchkaaElPlaysL
import Derived.Test.YtbamfnlgapchkaaElOpen
namespace Go.Proofs.Ytbamfnlgapchkaa.ElectPlaysW
open Go.RowKit Ele

set_option maxRecDepth 100000 in
theorem walk {H : Type} {enc : TypeId × Value → H} (W : World) (base : Nat) (v0 : Value) (d0 : DataW H) (p0 : List MemPlace) (v1 : Value) (d1 : DataW H) (p1 : List MemPlace) (v2 : Value) (d2 : DataW H) (p2 : List MemPlace) (v3 : Value) (d3 : DataW H) (p3 : List MemPlace)
    (h0 : DataW.Trod enc Try.prog W 0 (fun _ => true) true 71 v0 d0 p0) (h1 : DataW.Trod enc Try.prog W 0 (fun _ => true) true 89 v1 d1 p1) (h2 : DataW.Trod enc Try.prog W 0 (fun _ => true) true 26 v2 d2 p2) (h3 : DataW.Trod enc Try.prog W 0 (fun _ => true) true 5 v3 d3 p3)
    (k0 : Value.okWide Try.prog W .any base 71 v0) (k1 : Value.okWide Try.prog W .any base 89 v1) (k2 : Value.okWide Try.prog W .any base 26 v2) (k3 : Value.okWide Try.prog W .any base 5 v3)
    (_l0 : ∀ x ∈ p0, x.block < W.heap.size) (_l1 : ∀ x ∈ p1, x.block < W.heap.size) (_l2 : ∀ x ∈ p2, x.block < W.heap.size) (_l3 : ∀ x ∈ p3, x.block < W.heap.size) :
    Calls Try.prog 13 #[v0, v1, v2, v3] W fun e w' => e = .returned (.bool true) ∧ Below W.heap.size W w' := by
  obtain ⟨b, rfl, _, _⟩ := open_ballot h0
  obtain ⟨A, c, l, rfl, r1, f1, m1⟩ := open_tds h1 k1
  obtain ⟨a2, rfl, _, _, w2⟩ := ChangeShapes.open_int Try.underlying26 k2 h2
  obtain ⟨y, rfl⟩ := Int.eq_ofNat_of_zero_le (bounds_u64 w2).1
  obtain ⟨a3, rfl, _, _, w3⟩ := ChangeShapes.open_int Try.underlying5 k3 h3
  obtain ⟨x, rfl⟩ := Int.eq_ofNat_of_zero_le (bounds_u8 w3).1
  exact eplays_any b l _ rfl m1 A c y x (by have := (bounds_u8 w3).2; omega) W r1 f1
end Go.Proofs.Ytbamfnlgapchkaa.ElectPlaysW
